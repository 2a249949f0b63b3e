import Derived.Test.YtiaeollemmkclaaDoorPk0
import Derived.Test.YtiaeollemmkclaaDoorSetA
import Derived.Test.YtiaeollemmkclaaDoorPc
/- The plain law of layer 16: messages, their forms, as bytes, of bytes. No program in sight. -/
namespace Go.Proofs.YtiaeollemmkclaaDoor
structure MgS where
 k:UInt8
 pl:Int
 ot:Int
 cl:Int
 ge:Int
 nu:UInt64
 sm:List UInt8
 ids:List Int
 ns:List UInt64
 ps:List Pr
 xs:List UInt32
 re:Int
deriving DecidableEq
def Bt:MgS:=⟨0,0,0,0,0,0,List.replicate 32 0,[],[],[],[],0⟩
instance:Inhabited MgS:=⟨Bt⟩
def Hx (k:UInt8):List UInt8×List UInt8:=
 if k=1 then ([106,111,105,110],[99,103,110,115]) else if k=2 then ([114,111,115,116,101,114],[103,112])
 else if k=3 then ([98,111,120],[99,103,118]) else if k=4 then ([98,111,120,101,115],[103,105,118])
 else if k=5 then ([109,97,115,107,101,100],[99,103,120]) else if k=6 then ([112,97,114,116,105,97,108],[97,103,105,120,112,118])
 else if k=7 then ([116,97,107,101,110],[97,103]) else if k=8 then ([97,115,107],[97,103,105])
 else if k=9 then ([103,105,118,101],[99,103,118]) else if k=10 then ([103,105,118,101,110],[97,99,103,118])
 else if k=11 then ([97,98,111,114,116],[114]) else if k=12 then ([100,111,110,101],[105,120])
 else if k=13 then ([112,105,110,103],[97,103]) else if k=14 then ([112,111,110,103],[97,103])
 else if k=15 then ([115,116,101,112],[97,103]) else if k=16 then ([109,111,118,101],[97,111,103])
 else if k=17 then ([108,111,115,116],[103,105]) else if k=18 then ([108,97,116,101],[99,103])
 else if k=19 then ([113,117,105,116],[114]) else ([],[])
def Aj (k:UInt8):List UInt8:=(Hx k).2
def wiM (n most:Int):Bool:=decide (0≤n∧n≤most)
def pm1:UInt64:=2305843009213693950
def Gu (m:MgS) (c:UInt8):Bool:=
 if c=97 then wiM m.pl 15 else if c=111 then wiM m.ot 15 else if c=99 then wiM m.cl 63 else if c=103 then wiM m.ge 1073741824
 else if c=110 then decide (m.nu≤pm1) else if c=115 then true else if c=105 then B6 (-1) m.ids
 else if c=118 then decide (m.ns.length≤128)&&!(m.ns.any fun v=>decide (pm1 < v)) else if c=112 then may m.ps
 else if c=120 then decide (m.xs.length≤32) else if c=114 then wiM m.re 255 else false
def Cb (m:MgS) (c:UInt8):MgS:=
 if c=97 then {m with pl:=0} else if c=111 then {m with ot:=0} else if c=99 then {m with cl:=0} else if c=103 then {m with ge:=0}
 else if c=110 then {m with nu:=0} else if c=115 then {m with sm:=List.replicate 32 0} else if c=105 then {m with ids:=[]}
 else if c=118 then {m with ns:=[]} else if c=112 then {m with ps:=[]} else if c=120 then {m with xs:=[]} else if c=114 then {m with re:=0} else m
def Je (m:MgS):List UInt8→MgS→Bool
 |[],r=>decide (r=Bt)
 |c::f,r=>if Gu m c=true then Je m f (Cb r c) else false
def Cc (m:MgS):Bool:=if Aj m.k=[] then false else Je m (Aj m.k) {m with k:=0}
def Ao (l:List Int):List UInt64:=l.map UInt64.ofInt
def Be (l:List UInt64):List Int:=l.map fun v=>(v.toNat:Int)
def C5 (m:MgS) (c:UInt8):List (List UInt8):=
 if c=97 then [Al (UInt64.ofInt m.pl)] else if c=111 then [Al (UInt64.ofInt m.ot)] else if c=99 then [Al (UInt64.ofInt m.cl)] else if c=103 then [Al (UInt64.ofInt m.ge)]
 else if c=110 then [Al m.nu] else if c=115 then [m.sm] else if c=105 then [Bc (Ao m.ids)++Bl (Ao m.ids)]
 else if c=118 then [Bc m.ns++Bl m.ns] else if c=112 then [Bc (Ao (m.ps.map (·.1)))++Bl (Ao (m.ps.map (·.1))),Bc (m.ps.map (·.2))++Bl (m.ps.map (·.2))]
 else if c=120 then [Bc m.xs++Bw m.xs] else if c=114 then [Al (UInt64.ofInt m.re)] else []
def fbM (m:MgS) (c:UInt8):List UInt8:=(C5 m c).flatten
def Cr (m:MgS):List UInt8:=Al m.k.toUInt64++(Aj m.k).flatMap (fbM m)
def Jf (c:UInt8) (st:Rs) (m:MgS):Option (MgS×Rs):=
 if c=97 then some ({m with pl:=((Ay 15 st).1.toNat:Int)},(Ay 15 st).2.2)
 else if c=111 then some ({m with ot:=((Ay 15 st).1.toNat:Int)},(Ay 15 st).2.2)
 else if c=99 then some ({m with cl:=((Ay 63 st).1.toNat:Int)},(Ay 63 st).2.2)
 else if c=103 then some ({m with ge:=((Ay 1073741824 st).1.toNat:Int)},(Ay 1073741824 st).2.2)
 else if c=110 then some ({m with nu:=(Ay pm1 st).1},(Ay pm1 st).2.2)
 else if c=115 then some ({m with sm:=(C9 st).1},(C9 st).2)
 else if c=105 then some ({m with ids:=Be (A5 64 63 st).1},(A5 64 63 st).2)
 else if c=118 then some ({m with ns:=(A5 128 pm1 st).1},(A5 128 pm1 st).2)
 else if c=112 then (if (A5 64 63 st).1.length=(A5 64 pm1 (A5 64 63 st).2).1.length then some ({m with ps:=m.ps++(Be (A5 64 63 st).1).zip (A5 64 pm1 (A5 64 63 st).2).1},(A5 64 pm1 (A5 64 63 st).2).2) else none)
 else if c=120 then some ({m with xs:=(Dc 32 st).1},(Dc 32 st).2)
 else if c=114 then some ({m with re:=((Ay 255 st).1.toNat:Int)},(Ay 255 st).2.2) else some (m,st)
def Ga:List UInt8→MgS→Rs→Option (MgS×Rs)
 |[],m,st=>some (m,st)
 |c::f,m,st=>match Jf c st m with
  |none=>none
  |some (m',st')=>Ga f m' st'
def Lr:Option (MgS×Rs)→Option MgS
 |none=>none
 |some (m,st)=>if st=([],false)∧Cc m=true then some m else none
def Ep (b:List UInt8):Option MgS:=Lr (Ga (Aj (Ay 255 (b,false)).1.toUInt8) {Bt with k:=(Ay 255 (b,false)).1.toUInt8} (Ay 255 (b,false)).2.2)
theorem A1v {n many:Nat} (h:n≤many) (hm:many≤300):UInt64.ofNat n≤Ai (many:Int)∧(UInt64.ofNat n).toNat=n:=by
 have e:(UInt64.ofNat n).toNat=n:=ofNat_toNat (by omega)
 refine⟨?_,e⟩
 rw[UInt64.le_iff_toNat_le,e]
 unfold Ai
 rw[show (max (many:Int) 0).toNat=many by omega,ofNat_toNat hm]
 exact h
theorem Abq {α:Type} (l:List α) (many e:Nat) (hl:l.length≤many) (hm:many≤300) (t:List UInt8) (b:Bool) (ht:l.length≤t.length / e):Bv many e (Bc l++t,b)=(l.length,true,(t,b)):=by
 obtain⟨hle,hn⟩:=A1v hl hm
 unfold Bv Bc
 rw[Jb _ _ hle t b]
 simp only[if_true,hn,if_pos ht]
theorem Abr (most:UInt64):∀(l acc:List UInt64) (t:List UInt8) (b:Bool),(∀v∈l,v≤most)→De most l.length acc (Bl l++t,b)=(acc++l,(t,b))
 |[],acc,t,b,_=>by simp [Bl,De]
 |v::l,acc,t,b,h=>by
  have e:Bl (v::l)++t=Al v++(Bl l++t):=by simp [Bl,List.append_assoc]
  rw[e,List.length_cons,De,Jb _ v (h v (List.mem_cons_self ..))]
  simp only[if_true]
  rw[Abr most l _ _ _ fun x hx=>h x (List.mem_cons_of_mem _ hx)]
  simp
theorem Sn (l:List UInt64) (many:Nat) (most:UInt64) (hl:l.length≤many) (hm:many≤300) (hv:∀v∈l,v≤most) (t:List UInt8) (b:Bool):A5 many most ((Bc l++Bl l)++t,b)=(l,(t,b)):=by
 rw[List.append_assoc]
 unfold A5
 rw[Abq l many 1 hl hm _ b (by have:=A1a l;rw[List.length_append,Nat.div_one];omega)]
 simp only[if_true,Abr most l _ _ _ hv]
 rfl
theorem A1w (x:List UInt32) (many:Nat) (hl:x.length≤many) (hm:many≤300) (t:List UInt8) (b:Bool):Dc many ((Bc x++Bw x)++t,b)=(x,(t,b)):=by
 rw[List.append_assoc]
 unfold Dc
 rw[Abq x many 4 hl hm _ b (by rw[List.length_append,O4];omega)]
 simp only[if_true,Abe]
 rw[←O4 x,List.drop_left]
def He (m':MgS) (c:UInt8) (m:MgS):MgS:=
 if c=97 then {m' with pl:=m.pl} else if c=111 then {m' with ot:=m.ot} else if c=99 then {m' with cl:=m.cl} else if c=103 then {m' with ge:=m.ge}
 else if c=110 then {m' with nu:=m.nu} else if c=115 then {m' with sm:=m.sm} else if c=105 then {m' with ids:=m.ids}
 else if c=118 then {m' with ns:=m.ns} else if c=112 then {m' with ps:=m'.ps++m.ps} else if c=120 then {m' with xs:=m.xs} else if c=114 then {m' with re:=m.re} else m'
theorem M8 {n most:Int} (h:wiM n most=true) (hm:most≤1073741824):UInt64.ofInt n≤UInt64.ofNat most.toNat∧((UInt64.ofInt n).toNat:Int)=n:=by
 have h:=of_decide_eq_true h
 have e:UInt64.ofInt n=UInt64.ofNat n.toNat:=by
  rw[show n=((n.toNat:Nat):Int) by omega,Int.toNat_natCast]
  exact UInt64.toNat_inj.1 (by
   rw[UInt64.toNat_ofNat']
   show (Int.toNat (_ % 2 ^ 64)) % 2 ^ 64=_
   omega)
 have e2:(UInt64.ofNat n.toNat).toNat=n.toNat:=by rw[UInt64.toNat_ofNat'];omega
 rw[e,UInt64.le_iff_toNat_le,e2,UInt64.toNat_ofNat']
 exact⟨by omega,by omega⟩
theorem Abt {n:Int} (h:0≤n) (h2:n≤1073741824):((UInt64.ofInt n).toNat:Int)=n:=(M8 (n:=n) (most:=1073741824) (decide_eq_true ⟨h,h2⟩) (Int.le_refl _)).2
theorem Abu {l:List Int} (h:∀x∈l,0≤x∧x < 64):Be (Ao l)=l∧∀v∈Ao l,v≤(63:UInt64):=by
 unfold Be Ao
 constructor
 ·rw[List.map_map]
  exact (List.map_congr_left fun x hx=>Abt (h x hx).1 (by have:=h x hx;omega)).trans (List.map_id l)
 ·intro v hv
  obtain⟨x,hx,rfl⟩:=List.mem_map.1 hv
  have:=Abt (h x hx).1 (by have:=h x hx;omega)
  have:=h x hx
  rw[UInt64.le_iff_toNat_le,show (63:UInt64).toNat=63 from rfl]
  omega
theorem Abv {l:List Int} (h:B6 (-1) l=true):l.length≤64:=by
 rw[←A1i h]
 exact A1j _
theorem A1x {l:List Pr} (h:may l=true):l.length≤64∧(∀x∈l.map (·.1),0≤x∧x < 64)∧∀v∈l.map (·.2),v≤pm1:=by
 refine⟨V3 h,fun x hx=>?_,fun v hv=>?_⟩
 ·obtain⟨p,hp,rfl⟩:=List.mem_map.1 hx
  obtain⟨i,hi⟩:=List.mem_iff_getElem?.1 hp
  have hil:=(List.getElem?_eq_some_iff.1 hi).1
  have hg:=M5.1 h
  have h1:=V2 (l:=l) i fun j hj=>hg j (by omega)
  have h2:=hg i hil
  have e:ix l i=p:=by rw[ix,List.getD_eq_getElem?_getD,hi];rfl
  unfold Hd at h2
  rw[e] at h2
  exact⟨by omega,h2.2.1⟩
 ·obtain⟨p,hp,rfl⟩:=List.mem_map.1 hv
  obtain⟨i,hi⟩:=List.mem_iff_getElem?.1 hp
  have hil:=(List.getElem?_eq_some_iff.1 hi).1
  have h2:=(M5.1 h i hil).2.2.2
  have e:ix l i=p:=by rw[ix,List.getD_eq_getElem?_getD,hi];rfl
  rw[e,UInt64.lt_iff_toNat_lt,show fpP.toNat=2305843009213693951 from rfl] at h2
  rw[UInt64.le_iff_toNat_le,show pm1.toNat=2305843009213693950 from rfl]
  omega
theorem A1y (l:List Pr):(l.map (·.1)).zip (l.map (·.2))=l:=by
 induction l with
 |nil=>rfl
 |cons p l ih=>rw[List.map_cons,List.map_cons,List.zip_cons_cons,ih]
theorem A1z {l:List UInt64} (h:(decide (l.length≤128)&&!(l.any fun v=>decide (pm1 < v)))=true):l.length≤128∧∀v∈l,v≤pm1:=by
 rw[Bool.and_eq_true,Bool.not_eq_true',List.any_eq_false] at h
 refine⟨of_decide_eq_true h.1,fun v hv=>?_⟩
 have:=h.2 v hv
 rw[decide_eq_true_eq,UInt64.lt_iff_toNat_lt] at this
 rw[UInt64.le_iff_toNat_le]
 omega
theorem A10 {m:MgS} {c:UInt8} (h:Gu m c=true) (hs:m.sm.length=32) (m':MgS) (t:List UInt8) (b:Bool):Jf c (fbM m c++t,b) m'=some (He m' c m,(t,b)):=by
 unfold Gu at h
 unfold Jf fbM C5 He
 by_cases h1:c=97
 ·simp only[if_pos h1] at h ⊢
  obtain⟨a,e⟩:=M8 h (by decide)
  have a:UInt64.ofInt m.pl≤15:=a
  simp only[List.flatten_cons,List.flatten_nil,List.append_nil]
  rw[Jb _ _ a,e]
 simp only[if_neg h1] at h ⊢
 by_cases h1:c=111
 ·simp only[if_pos h1] at h ⊢
  obtain⟨a,e⟩:=M8 h (by decide)
  have a:UInt64.ofInt m.ot≤15:=a
  simp only[List.flatten_cons,List.flatten_nil,List.append_nil]
  rw[Jb _ _ a,e]
 simp only[if_neg h1] at h ⊢
 by_cases h1:c=99
 ·simp only[if_pos h1] at h ⊢
  obtain⟨a,e⟩:=M8 h (by decide)
  have a:UInt64.ofInt m.cl≤63:=a
  simp only[List.flatten_cons,List.flatten_nil,List.append_nil]
  rw[Jb _ _ a,e]
 simp only[if_neg h1] at h ⊢
 by_cases h1:c=103
 ·simp only[if_pos h1] at h ⊢
  obtain⟨a,e⟩:=M8 h (by decide)
  have a:UInt64.ofInt m.ge≤1073741824:=a
  simp only[List.flatten_cons,List.flatten_nil,List.append_nil]
  rw[Jb _ _ a,e]
 simp only[if_neg h1] at h ⊢
 by_cases h1:c=110
 ·simp only[if_pos h1] at h ⊢
  simp only[List.flatten_cons,List.flatten_nil,List.append_nil]
  rw[Jb _ _ (of_decide_eq_true h)]
 simp only[if_neg h1] at h ⊢
 by_cases h1:c=115
 ·simp only[if_pos h1] at h ⊢
  simp only[List.flatten_cons,List.flatten_nil,List.append_nil]
  unfold C9
  rw[if_neg (by rw[List.length_append];omega)]
  simp only[←hs,List.take_left,List.drop_left]
 simp only[if_neg h1] at h ⊢
 by_cases h1:c=105
 ·simp only[if_pos h1] at h ⊢
  obtain⟨a,e⟩:=Abu (l:=m.ids) fun x hx=>by have:=(Vw.1 h).1 x hx;omega
  simp only[List.flatten_cons,List.flatten_nil,List.append_nil]
  have:=Sn (Ao m.ids) 64 63 (by unfold Ao;rw[List.length_map];exact Abv h) (by decide) e t b
  rw[show (64:Int)=((64:Nat):Int) from rfl,this,a]
 simp only[if_neg h1] at h ⊢
 by_cases h1:c=118
 ·simp only[if_pos h1] at h ⊢
  obtain⟨a,e⟩:=A1z h
  simp only[List.flatten_cons,List.flatten_nil,List.append_nil]
  have:=Sn m.ns 128 pm1 a (by decide) e t b
  rw[show (128:Int)=((128:Nat):Int) from rfl,this]
 simp only[if_neg h1] at h ⊢
 by_cases h1:c=112
 ·simp only[if_pos h1] at h ⊢
  obtain⟨a,e,f⟩:=A1x h
  obtain⟨g,i⟩:=Abu e
  simp only[List.flatten_cons,List.flatten_nil,List.append_nil]
  have q1:=Sn (Ao (m.ps.map (·.1))) 64 63 (by unfold Ao;rw[List.length_map,List.length_map];exact a) (by decide) i ((Bc (m.ps.map (·.2))++Bl (m.ps.map (·.2)))++t) b
  have q2:=Sn (m.ps.map (·.2)) 64 pm1 (by rw[List.length_map];exact a) (by decide) f t b
  rw[List.append_assoc (Bc (Ao (m.ps.map (·.1)))++_)]
  rw[show (64:Int)=((64:Nat):Int) from rfl,q1]
  simp only[q2,g]
  rw[if_pos (by unfold Ao;simp),A1y]
 simp only[if_neg h1] at h ⊢
 by_cases h1:c=120
 ·simp only[if_pos h1] at h ⊢
  simp only[List.flatten_cons,List.flatten_nil,List.append_nil]
  have:=A1w m.xs 32 (of_decide_eq_true h) (by decide) t b
  rw[show (32:Int)=((32:Nat):Int) from rfl,this]
 simp only[if_neg h1] at h ⊢
 by_cases h1:c=114
 ·simp only[if_pos h1] at h ⊢
  obtain⟨a,e⟩:=M8 h (by decide)
  have a:UInt64.ofInt m.re≤255:=a
  simp only[List.flatten_cons,List.flatten_nil,List.append_nil]
  rw[Jb _ _ a,e]
 simp only[if_neg h1] at h
 cases h
def Bc5 (r:Option (MgS×Rs)):Prop:=r=none∨∃m,r=some (m,Gt)
theorem Abw {m:MgS} (hs:m.sm.length=32):∀(f:List UInt8) (m':MgS) (t:List UInt8) (b:Bool),(∀c∈f,Gu m c=true)→Ga f m' (f.flatMap (fbM m)++t,b)=some (f.foldl (fun x c=>He x c m) m',(t,b))
 |[],m',t,b,_=>rfl
 |c::f,m',t,b,h=>by
  rw[Ga,List.flatMap_cons,List.append_assoc,A10 (h c (List.mem_cons_self ..)) hs,List.foldl_cons]
  exact Abw hs f _ t b fun x hx=>h x (List.mem_cons_of_mem _ hx)
theorem V6 {m:MgS}:∀{f:List UInt8} {r:MgS},Je m f r=true↔(∀c∈f,Gu m c=true)∧f.foldl Cb r=Bt
 |[],r=>by simp [Je]
 |c::f,r=>by
  rw[Je,List.foldl_cons]
  by_cases h:Gu m c=true
  ·rw[if_pos h,V6]
   refine⟨fun⟨a,b⟩=>⟨fun x hx=>?_,b⟩,fun⟨a,b⟩=>⟨fun x hx=>a x (List.mem_cons_of_mem _ hx),b⟩⟩
   rcases List.mem_cons.1 hx with rfl|hx
   ·exact h
   ·exact a x hx
  ·rw[if_neg h]
   exact⟨(fun e=>nomatch e),fun⟨a,_⟩=>absurd (a c (List.mem_cons_self ..)) h⟩
structure Jn (m m' r:MgS):Prop where
 pl:m'.pl=m.pl∨m'.pl=0∧r.pl=m.pl
 ot:m'.ot=m.ot∨m'.ot=0∧r.ot=m.ot
 cl:m'.cl=m.cl∨m'.cl=0∧r.cl=m.cl
 ge:m'.ge=m.ge∨m'.ge=0∧r.ge=m.ge
 nu:m'.nu=m.nu∨m'.nu=0∧r.nu=m.nu
 sm:m'.sm=m.sm∨m'.sm=List.replicate 32 0∧r.sm=m.sm
 ids:m'.ids=m.ids∨m'.ids=[]∧r.ids=m.ids
 ns:m'.ns=m.ns∨m'.ns=[]∧r.ns=m.ns
 xs:m'.xs=m.xs∨m'.xs=[]∧r.xs=m.xs
 re:m'.re=m.re∨m'.re=0∧r.re=m.re
 k:m'.k=m.k
theorem Jn.step {m m' r:MgS} (h:Jn m m' r) (c:UInt8):Jn m (He m' c m) (Cb r c):=by
 unfold He Cb
 by_cases h1:c=97
 ·simp only[if_pos h1];exact⟨.inl rfl,h.ot,h.cl,h.ge,h.nu,h.sm,h.ids,h.ns,h.xs,h.re,h.k⟩
 simp only[if_neg h1]
 by_cases h1:c=111
 ·simp only[if_pos h1];exact⟨h.pl,.inl rfl,h.cl,h.ge,h.nu,h.sm,h.ids,h.ns,h.xs,h.re,h.k⟩
 simp only[if_neg h1]
 by_cases h1:c=99
 ·simp only[if_pos h1];exact⟨h.pl,h.ot,.inl rfl,h.ge,h.nu,h.sm,h.ids,h.ns,h.xs,h.re,h.k⟩
 simp only[if_neg h1]
 by_cases h1:c=103
 ·simp only[if_pos h1];exact⟨h.pl,h.ot,h.cl,.inl rfl,h.nu,h.sm,h.ids,h.ns,h.xs,h.re,h.k⟩
 simp only[if_neg h1]
 by_cases h1:c=110
 ·simp only[if_pos h1];exact⟨h.pl,h.ot,h.cl,h.ge,.inl rfl,h.sm,h.ids,h.ns,h.xs,h.re,h.k⟩
 simp only[if_neg h1]
 by_cases h1:c=115
 ·simp only[if_pos h1];exact⟨h.pl,h.ot,h.cl,h.ge,h.nu,.inl rfl,h.ids,h.ns,h.xs,h.re,h.k⟩
 simp only[if_neg h1]
 by_cases h1:c=105
 ·simp only[if_pos h1];exact⟨h.pl,h.ot,h.cl,h.ge,h.nu,h.sm,.inl rfl,h.ns,h.xs,h.re,h.k⟩
 simp only[if_neg h1]
 by_cases h1:c=118
 ·simp only[if_pos h1];exact⟨h.pl,h.ot,h.cl,h.ge,h.nu,h.sm,h.ids,.inl rfl,h.xs,h.re,h.k⟩
 simp only[if_neg h1]
 by_cases h1:c=112
 ·simp only[if_pos h1];exact⟨h.pl,h.ot,h.cl,h.ge,h.nu,h.sm,h.ids,h.ns,h.xs,h.re,h.k⟩
 simp only[if_neg h1]
 by_cases h1:c=120
 ·simp only[if_pos h1];exact⟨h.pl,h.ot,h.cl,h.ge,h.nu,h.sm,h.ids,h.ns,.inl rfl,h.re,h.k⟩
 simp only[if_neg h1]
 by_cases h1:c=114
 ·simp only[if_pos h1];exact⟨h.pl,h.ot,h.cl,h.ge,h.nu,h.sm,h.ids,h.ns,h.xs,.inl rfl,h.k⟩
 simp only[if_neg h1]
 exact h
theorem Jn.fold {m:MgS}:∀(f:List UInt8) {m' r:MgS},Jn m m' r→Jn m (f.foldl (fun x c=>He x c m) m') (f.foldl Cb r)
 |[],_,_,h=>h
 |c::f,_,_,h=>Jn.fold f (h.step c)
theorem Abx {m:MgS} (m':MgS) (c:UInt8):(He m' c m).ps=if c=112 then m'.ps++m.ps else m'.ps:=by
 unfold He
 by_cases h:c=112
 ·subst h;rfl
 ·have e:(if c=112 then m'.ps++m.ps else m'.ps)=m'.ps:=if_neg h
  rw[e]
  by_cases h1:c=97
  ·simp only[if_pos h1]
  simp only[if_neg h1]
  by_cases h1:c=111
  ·simp only[if_pos h1]
  simp only[if_neg h1]
  by_cases h1:c=99
  ·simp only[if_pos h1]
  simp only[if_neg h1]
  by_cases h1:c=103
  ·simp only[if_pos h1]
  simp only[if_neg h1]
  by_cases h1:c=110
  ·simp only[if_pos h1]
  simp only[if_neg h1]
  by_cases h1:c=115
  ·simp only[if_pos h1]
  simp only[if_neg h1]
  by_cases h1:c=105
  ·simp only[if_pos h1]
  simp only[if_neg h1]
  by_cases h1:c=118
  ·simp only[if_pos h1]
  simp only[if_neg h1,if_neg h]
  by_cases h1:c=120
  ·simp only[if_pos h1]
  simp only[if_neg h1]
  by_cases h1:c=114
  ·simp only[if_pos h1]
  simp only[if_neg h1]
theorem A11 (r:MgS) (c:UInt8):(Cb r c).ps=if c=112 then [] else r.ps:=by
 unfold Cb
 by_cases h:c=112
 ·subst h;rfl
 ·have e:(if c=112 then [] else r.ps)=r.ps:=if_neg h
  rw[e]
  by_cases h1:c=97
  ·simp only[if_pos h1]
  simp only[if_neg h1]
  by_cases h1:c=111
  ·simp only[if_pos h1]
  simp only[if_neg h1]
  by_cases h1:c=99
  ·simp only[if_pos h1]
  simp only[if_neg h1]
  by_cases h1:c=103
  ·simp only[if_pos h1]
  simp only[if_neg h1]
  by_cases h1:c=110
  ·simp only[if_pos h1]
  simp only[if_neg h1]
  by_cases h1:c=115
  ·simp only[if_pos h1]
  simp only[if_neg h1]
  by_cases h1:c=105
  ·simp only[if_pos h1]
  simp only[if_neg h1]
  by_cases h1:c=118
  ·simp only[if_pos h1]
  simp only[if_neg h1,if_neg h]
  by_cases h1:c=120
  ·simp only[if_pos h1]
  simp only[if_neg h1]
  by_cases h1:c=114
  ·simp only[if_pos h1]
  simp only[if_neg h1]
theorem Sp {m:MgS}:∀(f:List UInt8) (m':MgS),(∀c∈f,c≠112)→(f.foldl (fun x c=>He x c m) m').ps=m'.ps
 |[],_,_=>rfl
 |c::f,m',h=>by
  rw[List.foldl_cons,Sp f _ fun x hx=>h x (List.mem_cons_of_mem _ hx),Abx,if_neg (h c (List.mem_cons_self ..))]
theorem Aby:∀(f:List UInt8) (r:MgS),(∀c∈f,c≠112)→(f.foldl Cb r).ps=r.ps
 |[],_,_=>rfl
 |c::f,r,h=>by
  rw[List.foldl_cons,Aby f _ fun x hx=>h x (List.mem_cons_of_mem _ hx),A11,if_neg (h c (List.mem_cons_self ..))]
theorem A12 (k:UInt8):(∀c∈Aj k,c≠112)∨∃a b,Aj k=a++112::b∧(∀c∈a,c≠112)∧∀c∈b,c≠112:=by
 by_cases h2:k=2
 ·subst h2;exact .inr ⟨[103],[],rfl,by decide,by decide⟩
 by_cases h6:k=6
 ·subst h6;exact .inr ⟨[97,103,105,120],[118],rfl,by decide,by decide⟩
 left
 unfold Aj Hx
 by_cases h1:k=1
 ·simp only[if_pos h1];decide
 simp only[if_neg h1,if_neg h2]
 by_cases h1:k=3
 ·simp only[if_pos h1];decide
 simp only[if_neg h1]
 by_cases h1:k=4
 ·simp only[if_pos h1];decide
 simp only[if_neg h1]
 by_cases h1:k=5
 ·simp only[if_pos h1];decide
 simp only[if_neg h1,if_neg h6]
 by_cases h1:k=7
 ·simp only[if_pos h1];decide
 simp only[if_neg h1]
 by_cases h1:k=8
 ·simp only[if_pos h1];decide
 simp only[if_neg h1]
 by_cases h1:k=9
 ·simp only[if_pos h1];decide
 simp only[if_neg h1]
 by_cases h1:k=10
 ·simp only[if_pos h1];decide
 simp only[if_neg h1]
 by_cases h1:k=11
 ·simp only[if_pos h1];decide
 simp only[if_neg h1]
 by_cases h1:k=12
 ·simp only[if_pos h1];decide
 simp only[if_neg h1]
 by_cases h1:k=13
 ·simp only[if_pos h1];decide
 simp only[if_neg h1]
 by_cases h1:k=14
 ·simp only[if_pos h1];decide
 simp only[if_neg h1]
 by_cases h1:k=15
 ·simp only[if_pos h1];decide
 simp only[if_neg h1]
 by_cases h1:k=16
 ·simp only[if_pos h1];decide
 simp only[if_neg h1]
 by_cases h1:k=17
 ·simp only[if_pos h1];decide
 simp only[if_neg h1]
 by_cases h1:k=18
 ·simp only[if_pos h1];decide
 simp only[if_neg h1]
 by_cases h1:k=19
 ·simp only[if_pos h1];decide
 simp only[if_neg h1]
 decide
theorem Abz {m:MgS} (h:Cc m=true):Aj m.k≠[]∧(∀c∈Aj m.k,Gu m c=true)∧(Aj m.k).foldl Cb {m with k:=0}=Bt:=by
 unfold Cc at h
 split at h
 ·cases h
 ·rename_i hf
  exact⟨hf,V6.1 h⟩
theorem A13 {m:MgS} (h:Cc m=true):(Aj m.k).foldl (fun x c=>He x c m) {Bt with k:=m.k}=m:=by
 obtain⟨hf,hm,hz⟩:=Abz h
 have J0:Jn m {Bt with k:=m.k} {m with k:=0}:=⟨.inr ⟨rfl,rfl⟩,.inr ⟨rfl,rfl⟩,.inr ⟨rfl,rfl⟩,.inr ⟨rfl,rfl⟩,.inr ⟨rfl,rfl⟩,.inr ⟨rfl,rfl⟩,.inr ⟨rfl,rfl⟩,.inr ⟨rfl,rfl⟩,.inr ⟨rfl,rfl⟩,.inr ⟨rfl,rfl⟩,rfl⟩
 have J:=J0.fold (Aj m.k)
 have hps:((Aj m.k).foldl (fun x c=>He x c m) {Bt with k:=m.k}).ps=m.ps:=by
  rcases A12 m.k with h1|⟨a,b,e,ha,hb⟩
  ·rw[Sp _ _ h1]
   have:=Aby _ {m with k:=0} h1
   rw[hz] at this
   exact this
  ·rw[e,List.foldl_append,List.foldl_cons,Sp _ _ hb,Abx,if_pos rfl,Sp _ _ ha]
   rfl
 rw[hz] at J
 generalize (Aj m.k).foldl (fun x c=>He x c m) {Bt with k:=m.k}=m' at*
 have g:∀{α:Type} {x y z r:α},(x=y∨x=z∧r=y)→r=z→x=y:=fun h e=>by
  rcases h with h|⟨h1,h2⟩
  ·exact h
  ·rw[h1,←h2,e]
 have e1:=g J.pl rfl
 have e2:=g J.ot rfl
 have e3:=g J.cl rfl
 have e4:=g J.ge rfl
 have e5:=g J.nu rfl
 have e6:=g J.sm rfl
 have e7:=g J.ids rfl
 have e8:=g J.ns rfl
 have e9:=g J.xs rfl
 have e10:=g J.re rfl
 have e11:=J.k
 cases m'
 cases m
 simp only at*
 subst e1 e2 e3 e4 e5 e6 e7 e8 e9 e10 e11 hps
 rfl
theorem A14 (k:UInt8):k.toUInt64≤(255:UInt64):=by
 rw[UInt64.le_iff_toNat_le,UInt8.toNat_toUInt64,show (255:UInt64).toNat=255 from rfl]
 have:=k.toNat_lt
 omega
theorem A15 (k:UInt8):k.toUInt64.toUInt8=k:=by
 apply UInt8.toNat_inj.1
 rw[UInt64.toNat_toUInt8,UInt8.toNat_toUInt64]
 have:=k.toNat_lt
 omega
theorem V7 {m:MgS} (h:Cc m=true) (hs:m.sm.length=32):Ep (Cr m)=some m:=by
 obtain⟨hf,hm,hz⟩:=Abz h
 unfold Ep Cr
 rw[Jb _ _ (A14 m.k)]
 simp only[A15]
 have:=Abw hs (Aj m.k) {Bt with k:=m.k} [] false hm
 rw[List.append_nil] at this
 rw[this]
 unfold Lr
 simp only[A13 h,h,and_self,if_true]
end Go.Proofs.YtiaeollemmkclaaDoor
