import Derived.Test.YtiaeollemmkclaaDoorMg0
/- The plain law of layer 16's document: what it reads field by field, and writes again, is what the program reads. No program in sight. -/
namespace Go.Proofs.YtiaeollemmkclaaDoor
set_option linter.unusedVariables false
theorem Tf {most:UInt64} {st:Rs} (h:(Ay most st).2.2.2=false):st.2=false∧(Ay most st).2.1=true∧(Ay most st).1≤most∧st.1=Al (Ay most st).1++(Ay most st).2.2.1∧∀most',most≤most'→Ay most' st=Ay most st:=by
 unfold Ay at h ⊢
 cases hg:B9 st.1 with
 |none=>rw[hg] at h;cases h
 |some r=>
  obtain⟨v,n⟩:=r
  rw[hg] at h
  simp only at h ⊢
  by_cases hv:v≤most
  ·simp only[if_pos hv] at h ⊢
   refine⟨h,trivial,hv,(O3 hg).2,fun most' hm=>?_⟩
   rw[if_pos (UInt64.le_trans hv hm)]
  ·rw[if_neg hv] at h
   cases h
theorem A8r (v:UInt64):UInt64.ofNat v.toNat=v:=UInt64.ofNat_toNat
theorem Nq (v:UInt64):UInt64.ofInt (v.toNat:Int)=v:=by
 rw[←UInt64.toNat_inj]
 show (Int.toNat (_ % 2 ^ 64)) % 2 ^ 64=_
 have:=v.toNat_lt
 omega
theorem A8s {a b:Nat} (h:a≤b) (hb:b≤300):Ai (a:Int)≤Ai (b:Int):=by
 unfold Ai
 rw[show (max (a:Int) 0).toNat=a by omega,show (max (b:Int) 0).toNat=b by omega,UInt64.le_iff_toNat_le,ofNat_toNat (by omega),ofNat_toNat hb]
 exact h
theorem Adt {n:Nat} (h:n≤300):(Ai (n:Int)).toNat=n:=by
 unfold Ai
 rw[show (max (n:Int) 0).toNat=n by omega,ofNat_toNat h]
theorem Adu {many:Nat} {e:Nat} {st:Rs} (hm:many≤300) (h:(Bv many e st).2.2.2=false):st.2=false∧(Bv many e st).2.1=true∧(Bv many e st).1≤many∧(Bv many e st).1≤(Bv many e st).2.2.1.length / e∧st.1=Al (UInt64.ofNat (Bv many e st).1)++(Bv many e st).2.2.1∧∀many':Nat,many≤many'→many'≤300→Bv many' e st=Bv many e st:=by
 unfold Bv at h ⊢
 by_cases h1:(Ay (Ai many) st).2.1=true
 ·simp only[if_pos h1] at h ⊢
  by_cases h2:(Ay (Ai many) st).1.toNat≤(Ay (Ai many) st).2.2.1.length / e
  ·simp only[if_pos h2] at h ⊢
   obtain⟨a,b,c,d,f⟩:=Tf h
   refine⟨a,trivial,?_,h2,by rw[A8r];exact d,fun many' hm' hm2=>?_⟩
   ·have:=UInt64.le_iff_toNat_le.1 c
    rwa [Adt hm] at this
   ·rw[f _ (A8s hm' hm2),if_pos h1,if_pos h2]
  ·rw[if_neg h2] at h
   cases h
 ·rw[if_neg h1] at h
  cases h
theorem Adv:∀(n:Nat) {most:UInt64} {acc:List UInt64} {st:Rs},(De most n acc st).2.2=false→∃l,(De most n acc st).1=acc++l∧l.length=n∧st.2=false∧st.1=Bl l++(De most n acc st).2.1∧∀most',most≤most'→De most' n acc st=De most n acc st
 |0,most,acc,st,h=>⟨[],by simp [De],rfl,h,by simp [De,Bl],fun _ _=>rfl⟩
 |n+1,most,acc,st,h=>by
  rw[De] at h ⊢
  by_cases h1:(Ay most st).2.1=true
  ·rw[if_pos h1] at h ⊢
   obtain⟨l,a,b,c,d,e⟩:=Adv n h
   obtain⟨a',b',c',d',f'⟩:=Tf c
   refine⟨(Ay most st).1::l,by rw[a,List.append_assoc];rfl,by rw[List.length_cons,b],a',?_,fun most' hm=>?_⟩
   ·rw[d'.trans (congrArg _ d),←List.append_assoc]
    rfl
   ·rw[De,f' _ hm,if_pos h1,e _ hm]
  ·rw[if_neg h1] at h
   cases h
theorem Tg {many:Nat} {most:UInt64} {st:Rs} (hm:many≤300) (h:(A5 many most st).2.2=false):st.2=false∧(A5 many most st).1.length≤many∧st.1=(Bc (A5 many most st).1++Bl (A5 many most st).1)++(A5 many most st).2.1∧∀(many':Nat) (most':UInt64),many≤many'→many'≤300→most≤most'→A5 many' most' st=A5 many most st:=by
 unfold A5 at h ⊢
 by_cases h1:(Bv many 1 st).2.1=true
 ·rw[if_pos h1] at h ⊢
  obtain⟨l,a,b,c,d,e⟩:=Adv _ h
  obtain⟨a',b',c',d',e',f'⟩:=Adu hm c
  refine⟨a',?_,?_,fun many' most' hm1 hm2 hm3=>?_⟩
  ·rw[a,List.nil_append,b]
   exact c'
  ·rw[a,List.nil_append]
   unfold Bc
   rw[b,List.append_assoc,←d]
   exact e'
  ·rw[f' _ hm1 hm2,if_pos h1,e _ hm3]
 ·rw[if_neg h1] at h
  cases h
theorem A8t {st:Rs} (h:(C9 st).2.2=false):st.2=false∧st.1=(C9 st).1++(C9 st).2.1:=by
 unfold C9 at h ⊢
 by_cases h1:st.1.length < 32
 ·rw[if_pos h1] at h;cases h
 ·rw[if_neg h1] at h ⊢
  exact⟨h,(List.take_append_drop ..).symm⟩
theorem A8u {a b c d:UInt8}:b4 (w4 a b c d)=[a,b,c,d]:=by
 have h:∀{x y:UInt8},x.toNat=y.toNat→x=y:=fun e=>UInt8.toNat_inj.1 e
 have ha:=a.toNat_lt
 have hb:=b.toNat_lt
 have hc:=c.toNat_lt
 have hd:=d.toNat_lt
 have e:(w4 a b c d).toNat=16777216*a.toNat+65536*b.toNat+256*c.toNat+d.toNat:=by
  unfold w4
  simp only[UInt32.toNat_or,UInt32.toNat_shiftLeft,UInt8.toNat_toUInt32,Nat.shiftLeft_eq]
  rw[show (24:UInt32).toNat % 32=24 from rfl,show (16:UInt32).toNat % 32=16 from rfl,show (8:UInt32).toNat % 32=8 from rfl]
  rw[Nat.mod_eq_of_lt (by omega),Nat.mod_eq_of_lt (by omega),Nat.mod_eq_of_lt (by omega)]
  rw[←Nat.shiftLeft_eq,←Nat.shiftLeft_add_eq_or_of_lt (by omega),Nat.shiftLeft_eq]
  rw[show a.toNat*2 ^ 24+b.toNat*2 ^ 16=(a.toNat*2 ^ 8+b.toNat)*2 ^ 16 by omega,←Nat.shiftLeft_eq,←Nat.shiftLeft_add_eq_or_of_lt (by omega),Nat.shiftLeft_eq]
  rw[show (a.toNat*2 ^ 8+b.toNat)*2 ^ 16+c.toNat*2 ^ 8=((a.toNat*2 ^ 8+b.toNat)*2 ^ 8+c.toNat)*2 ^ 8 by omega,←Nat.shiftLeft_eq,←Nat.shiftLeft_add_eq_or_of_lt (by omega),Nat.shiftLeft_eq]
  omega
 unfold b4
 refine congr (congrArg List.cons (h ?_)) (congr (congrArg List.cons (h ?_)) (congr (congrArg List.cons (h ?_)) (congrArg (·::[]) (h ?_))))<;>simp only[UInt32.toNat_toUInt8,UInt32.toNat_shiftRight,e,Nat.shiftRight_eq_div_pow,show (24:UInt32).toNat % 32=24 from rfl,show (16:UInt32).toNat % 32=16 from rfl,show (8:UInt32).toNat % 32=8 from rfl]<;>omega
theorem Adw:∀(n:Nat) (l:List UInt8),4*n≤l.length→Bw (fours (l.take (4*n)))=l.take (4*n)∧(fours (l.take (4*n))).length=n
 |0,l,_=>by simp [fours,Bw]
 |n+1,l,h=>by
  match l,h with
  |a::b::c::d::r,h=>
   have hr:4*n≤r.length:=by simp only[List.length_cons] at h;omega
   obtain⟨e,f⟩:=Adw n r hr
   have ht:(a::b::c::d::r).take (4*(n+1))=a::b::c::d::r.take (4*n):=by rw[show 4*(n+1)=4*n+4 by omega];rfl
   rw[ht]
   constructor
   ·show b4 (w4 a b c d)++Bw (fours (r.take (4*n)))=_
    rw[e,A8u]
    rfl
   ·show (fours (r.take (4*n))).length+1=_
    rw[f]
theorem A8v {many:Nat} {st:Rs} (hm:many≤300) (h:(Dc many st).2.2=false):st.2=false∧st.1=(Bc (Dc many st).1++Bw (Dc many st).1)++(Dc many st).2.1∧∀many':Nat,many≤many'→many'≤300→Dc many' st=Dc many st:=by
 unfold Dc at h ⊢
 by_cases h1:(Bv many 4 st).2.1=true
 ·rw[if_pos h1] at h ⊢
  obtain⟨a',b',c',d',e',f'⟩:=Adu hm h
  obtain⟨e,f⟩:=Adw _ (Bv many 4 st).2.2.1 (show 4*(Bv many 4 st).1≤_ by omega)
  refine⟨a',?_,fun many' hm1 hm2=>?_⟩
  ·simp only
   unfold Bc
   rw[f,e,List.append_assoc,List.take_append_drop]
   exact e'
  ·rw[f' _ hm1 hm2,if_pos h1]
 ·rw[if_neg h1] at h
  cases h
def A8w (c:UInt8):UInt8:=if c=115 then 3 else if c=105 then 1 else if c=118 then 1 else if c=112 then 1 else if c=120 then 4 else 0
def C7 (c:UInt8):Fd:={Df (A8w c) with many:=128,most:=pm1}
def Cu (c:UInt8) (st:Rs) (m:MgS):MgS×Rs:=
 if c=97 then ({m with pl:=((Bj (C7 c) st).1.n.toNat:Int)},(Bj (C7 c) st).2)
 else if c=111 then ({m with ot:=((Bj (C7 c) st).1.n.toNat:Int)},(Bj (C7 c) st).2)
 else if c=99 then ({m with cl:=((Bj (C7 c) st).1.n.toNat:Int)},(Bj (C7 c) st).2)
 else if c=103 then ({m with ge:=((Bj (C7 c) st).1.n.toNat:Int)},(Bj (C7 c) st).2)
 else if c=114 then ({m with re:=((Bj (C7 c) st).1.n.toNat:Int)},(Bj (C7 c) st).2)
 else if c=110 then ({m with nu:=(Bj (C7 c) st).1.n},(Bj (C7 c) st).2)
 else if c=115 then ({m with sm:=(Bj (C7 c) st).1.s},(Bj (C7 c) st).2)
 else if c=118 then ({m with ns:=(Bj (C7 c) st).1.l},(Bj (C7 c) st).2)
 else if c=120 then ({m with xs:=(Bj (C7 c) st).1.x},(Bj (C7 c) st).2)
 else if c=105 then ({m with ids:=m.ids++Be (Bj (C7 c) st).1.l},(Bj (C7 c) st).2)
 else if c=112 then ({m with ps:=m.ps++(Be (Bj (C7 c) st).1.l).zip (Bj (C7 c) (Bj (C7 c) st).2).1.l},(Bj (C7 c) (Bj (C7 c) st).2).2)
 else (m,(Bj (C7 c) st).2)
def G2:List UInt8→MgS→Rs→MgS×Rs
 |[],m,st=>(m,st)
 |c::f,m,st=>G2 f (Cu c st m).1 (Cu c st m).2
def E0:List UInt8→Option MgS
 |[]=>none
 |k::t=>if Cc (G2 (Aj k) {Bt with k:=k} (t,false)).1=true∧Cr (G2 (Aj k) {Bt with k:=k} (t,false)).1=k::t then some (G2 (Aj k) {Bt with k:=k} (t,false)).1 else none
def isF (c:UInt8):Prop:=c=97∨c=111∨c=99∨c=103∨c=110∨c=115∨c=105∨c=118∨c=112∨c=120∨c=114
theorem Adx (l:List UInt64):Ao (Be l)=l:=by
 unfold Ao Be
 rw[List.map_map]
 exact (List.map_congr_left fun x _=>Nq x).trans (List.map_id l)
theorem A8x {α β:Type} {a:List α} {b:List β} (h:a.length=b.length):(a.zip b).map (·.1)=a∧(a.zip b).map (·.2)=b:=⟨List.map_fst_zip (by omega),List.map_snd_zip (by omega)⟩
theorem A8y {c:UInt8} (hc:isF c) {st st1:Rs} {m m1:MgS} (h:Jf c st m=some (m1,st1)) (hg:st1.2=false) (hi:c=105→m.ids=[]) (hp:c=112→m.ps=[]):
  st.2=false∧st.1=fbM m1 c++st1.1∧Cu c st m=(m1,st1):=by
 have num:∀(most:UInt64),most≤pm1→(Ay most st).2.2.2=false→st.2=false∧st.1=Al (Ay most st).1++(Ay most st).2.2.1∧Ay pm1 st=Ay most st:=fun most hm hh=>by
  obtain⟨a,_,_,d,f⟩:=Tf hh
  exact⟨a,d,f _ hm⟩
 rcases hc with rfl|rfl|rfl|rfl|rfl|rfl|rfl|rfl|rfl|rfl|rfl
 ·obtain⟨rfl,rfl⟩:=Prod.mk.inj (Option.some.inj h)
  obtain⟨a,b,d⟩:=num _ (by decide) hg
  refine⟨a,b.trans ?_,?_⟩
  ·show _=[Al (UInt64.ofInt _)].flatten++_
   rw[Nq]
   simp
  ·show (({m with pl:=((Ay pm1 st).1.toNat:Int)}:MgS),(Ay pm1 st).2.2)=_
   rw[d]
 ·obtain⟨rfl,rfl⟩:=Prod.mk.inj (Option.some.inj h)
  obtain⟨a,b,d⟩:=num _ (by decide) hg
  refine⟨a,b.trans ?_,?_⟩
  ·show _=[Al (UInt64.ofInt _)].flatten++_
   rw[Nq]
   simp
  ·show (({m with ot:=((Ay pm1 st).1.toNat:Int)}:MgS),(Ay pm1 st).2.2)=_
   rw[d]
 ·obtain⟨rfl,rfl⟩:=Prod.mk.inj (Option.some.inj h)
  obtain⟨a,b,d⟩:=num _ (by decide) hg
  refine⟨a,b.trans ?_,?_⟩
  ·show _=[Al (UInt64.ofInt _)].flatten++_
   rw[Nq]
   simp
  ·show (({m with cl:=((Ay pm1 st).1.toNat:Int)}:MgS),(Ay pm1 st).2.2)=_
   rw[d]
 ·obtain⟨rfl,rfl⟩:=Prod.mk.inj (Option.some.inj h)
  obtain⟨a,b,d⟩:=num _ (by decide) hg
  refine⟨a,b.trans ?_,?_⟩
  ·show _=[Al (UInt64.ofInt _)].flatten++_
   rw[Nq]
   simp
  ·show (({m with ge:=((Ay pm1 st).1.toNat:Int)}:MgS),(Ay pm1 st).2.2)=_
   rw[d]
 ·obtain⟨rfl,rfl⟩:=Prod.mk.inj (Option.some.inj h)
  obtain⟨a,b,d⟩:=num _ (UInt64.le_refl _) hg
  exact⟨a,b.trans (by show _=[Al _].flatten++_;simp),rfl⟩
 ·obtain⟨rfl,rfl⟩:=Prod.mk.inj (Option.some.inj h)
  obtain⟨a,b⟩:=A8t hg
  exact⟨a,b.trans (by show _=[(C9 st).1].flatten++_;simp),rfl⟩
 ·obtain⟨rfl,rfl⟩:=Prod.mk.inj (Option.some.inj h)
  obtain⟨a,b,d,e⟩:=Tg (many:=64) (by decide) hg
  refine⟨a,d.trans ?_,?_⟩
  ·show _=[Bc (Ao (Be _))++Bl (Ao (Be _))].flatten++_
   rw[Adx]
   simp
  ·show (({m with ids:=m.ids++Be (A5 ((128:Nat):Int) pm1 st).1}:MgS),(A5 ((128:Nat):Int) pm1 st).2)=_
   rw[e 128 pm1 (by decide) (by decide) (by decide),hi rfl]
   rfl
 ·obtain⟨rfl,rfl⟩:=Prod.mk.inj (Option.some.inj h)
  obtain⟨a,b,d,e⟩:=Tg (many:=128) (by decide) hg
  exact⟨a,d.trans (by show _=[Bc _++Bl _].flatten++_;simp),rfl⟩
 ·have h:(if (A5 64 63 st).1.length=(A5 64 pm1 (A5 64 63 st).2).1.length then some (({m with ps:=m.ps++(Be (A5 64 63 st).1).zip (A5 64 pm1 (A5 64 63 st).2).1}:MgS),(A5 64 pm1 (A5 64 63 st).2).2) else none)=some (m1,st1):=h
  by_cases hl:(A5 64 63 st).1.length=(A5 64 pm1 (A5 64 63 st).2).1.length
  ·rw[if_pos hl] at h
   obtain⟨rfl,rfl⟩:=Prod.mk.inj (Option.some.inj h)
   obtain⟨a2,b2,d2,e2⟩:=Tg (many:=64) (by decide) hg
   obtain⟨a,b,d,e⟩:=Tg (many:=64) (by decide) a2
   have hl2:(Be (A5 64 63 st).1).length=(A5 64 pm1 (A5 64 63 st).2).1.length:=by unfold Be;rw[List.length_map];exact hl
   obtain⟨z1,z2⟩:=A8x hl2
   refine⟨a,(d.trans (congrArg _ d2)).trans ?_,?_⟩
   ·show _=[Bc (Ao ((m.ps++_).map (·.1)))++Bl (Ao ((m.ps++_).map (·.1))),Bc ((m.ps++_).map (·.2))++Bl ((m.ps++_).map (·.2))].flatten++_
    rw[hp rfl,List.nil_append,z1,z2,Adx]
    simp only[List.flatten_cons,List.flatten_nil,List.append_nil,List.append_assoc]
    rfl
   ·show (({m with ps:=m.ps++(Be (A5 ((128:Nat):Int) pm1 st).1).zip (A5 ((128:Nat):Int) pm1 (A5 ((128:Nat):Int) pm1 st).2).1}:MgS),(A5 ((128:Nat):Int) pm1 (A5 ((128:Nat):Int) pm1 st).2).2)=_
    rw[e 128 pm1 (by decide) (by decide) (by decide)]
    have:=e2 128 pm1 (by decide) (by decide) (UInt64.le_refl _)
    rw[show ((64:Nat):Int)=64 from rfl] at this ⊢
    rw[this]
  ·rw[if_neg hl] at h
   cases h
 ·obtain⟨rfl,rfl⟩:=Prod.mk.inj (Option.some.inj h)
  obtain⟨a,b,d⟩:=A8v (many:=32) (by decide) hg
  refine⟨a,b.trans (by show _=[Bc _++Bw _].flatten++_;simp),?_⟩
  show (({m with xs:=(Dc ((128:Nat):Int) st).1}:MgS),(Dc ((128:Nat):Int) st).2)=_
  rw[d 128 (by decide) (by decide)]
  rfl
 ·obtain⟨rfl,rfl⟩:=Prod.mk.inj (Option.some.inj h)
  obtain⟨a,b,d⟩:=num _ (by decide) hg
  refine⟨a,b.trans ?_,?_⟩
  ·show _=[Al (UInt64.ofInt _)].flatten++_
   rw[Nq]
   simp
  ·show (({m with re:=((Ay pm1 st).1.toNat:Int)}:MgS),(Ay pm1 st).2.2)=_
   rw[d]
theorem A8z {c:UInt8} (hc:isF c) {st st1:Rs} {m m1:MgS} (h:Jf c st m=some (m1,st1)):m1.k=m.k∧(c≠105→m1.ids=m.ids)∧(c≠112→m1.ps=m.ps)∧∀d,isF d→d≠c→fbM m1 d=fbM m d:=by
 have key:∀{x:MgS} {y:Rs},some (x,y)=some (m1,st1)→m1=x:=fun h=>(Prod.mk.inj (Option.some.inj h)).1.symm
 rcases hc with rfl|rfl|rfl|rfl|rfl|rfl|rfl|rfl|rfl|rfl|rfl
 case inr.inr.inr.inr.inr.inr.inr.inr.inl=>
  have h:(if (A5 64 63 st).1.length=(A5 64 pm1 (A5 64 63 st).2).1.length then some (({m with ps:=m.ps++(Be (A5 64 63 st).1).zip (A5 64 pm1 (A5 64 63 st).2).1}:MgS),(A5 64 pm1 (A5 64 63 st).2).2) else none)=some (m1,st1):=h
  by_cases hl:(A5 64 63 st).1.length=(A5 64 pm1 (A5 64 63 st).2).1.length
  ·rw[if_pos hl] at h
   obtain rfl:=key h
   refine⟨rfl,fun _=>rfl,fun e=>absurd rfl e,fun d hd hn=>?_⟩
   rcases hd with rfl|rfl|rfl|rfl|rfl|rfl|rfl|rfl|rfl|rfl|rfl<;>first|rfl|exact absurd rfl hn
  ·rw[if_neg hl] at h
   cases h
 all_goals
  obtain rfl:=key h
  refine⟨rfl,?_,?_,fun d hd hn=>?_⟩
  ·first|exact fun _=>rfl|exact fun e=>absurd rfl e
  ·first|exact fun _=>rfl|exact fun e=>absurd rfl e
  ·rcases hd with rfl|rfl|rfl|rfl|rfl|rfl|rfl|rfl|rfl|rfl|rfl<;>first|rfl|exact absurd rfl hn
theorem Ady:∀(f:List UInt8) {m m':MgS} {st st':Rs},f.Nodup→(∀c∈f,isF c)→(105∈f→m.ids=[])→(112∈f→m.ps=[])→Ga f m st=some (m',st')→st'.2=false→
  st.2=false∧st.1=f.flatMap (fbM m')++st'.1∧G2 f m st=(m',st')∧m'.k=m.k∧∀d,isF d→d∉f→fbM m' d=fbM m d
 |[],m,m',st,st',_,_,_,_,h,hg=>by
  obtain⟨rfl,rfl⟩:=Prod.mk.inj (Option.some.inj h)
  exact⟨hg,rfl,rfl,rfl,fun _ _ _=>rfl⟩
 |c::f,m,m',st,st',hn,hf,hi,hp,h,hg=>by
  rw[Ga] at h
  cases hs:Jf c st m with
  |none=>rw[hs] at h;cases h
  |some r=>
   obtain⟨m1,st1⟩:=r
   rw[hs] at h
   have hc:=hf c (List.mem_cons_self ..)
   obtain⟨hk,o1,o2,o3⟩:=A8z hc hs
   obtain⟨hn1,hn2⟩:=List.nodup_cons.1 hn
   have q1:105∈f→m1.ids=[]:=fun hm=>(o1 fun e=>hn1 (e▸hm)).trans (hi (List.mem_cons_of_mem _ hm))
   have q2:112∈f→m1.ps=[]:=fun hm=>(o2 fun e=>hn1 (e▸hm)).trans (hp (List.mem_cons_of_mem _ hm))
   obtain⟨a,b,d,e,g⟩:=Ady f hn2 (fun x hx=>hf x (List.mem_cons_of_mem _ hx)) q1 q2 h hg
   obtain⟨a',b',d'⟩:=A8y hc hs a (fun e=>hi (e▸List.mem_cons_self ..)) (fun e=>hp (e▸List.mem_cons_self ..))
   refine⟨a',?_,?_,e.trans hk,fun x hx hxn=>?_⟩
   ·rw[b',b,List.flatMap_cons,List.append_assoc,g c hc hn1]
   ·rw[G2,d']
    exact d
   ·rw[List.mem_cons,not_or] at hxn
    rw[g x hx hxn.2,o3 x hx hxn.1]
theorem Nr (k:UInt8):(Aj k).Nodup∧∀c∈Aj k,isF c:=by
 unfold Aj Hx isF
 by_cases h1:k=1
 ·rw[if_pos h1];decide
 rw[if_neg h1]
 clear h1
 by_cases h1:k=2
 ·rw[if_pos h1];decide
 rw[if_neg h1]
 clear h1
 by_cases h1:k=3
 ·rw[if_pos h1];decide
 rw[if_neg h1]
 clear h1
 by_cases h1:k=4
 ·rw[if_pos h1];decide
 rw[if_neg h1]
 clear h1
 by_cases h1:k=5
 ·rw[if_pos h1];decide
 rw[if_neg h1]
 clear h1
 by_cases h1:k=6
 ·rw[if_pos h1];decide
 rw[if_neg h1]
 clear h1
 by_cases h1:k=7
 ·rw[if_pos h1];decide
 rw[if_neg h1]
 clear h1
 by_cases h1:k=8
 ·rw[if_pos h1];decide
 rw[if_neg h1]
 clear h1
 by_cases h1:k=9
 ·rw[if_pos h1];decide
 rw[if_neg h1]
 clear h1
 by_cases h1:k=10
 ·rw[if_pos h1];decide
 rw[if_neg h1]
 clear h1
 by_cases h1:k=11
 ·rw[if_pos h1];decide
 rw[if_neg h1]
 clear h1
 by_cases h1:k=12
 ·rw[if_pos h1];decide
 rw[if_neg h1]
 clear h1
 by_cases h1:k=13
 ·rw[if_pos h1];decide
 rw[if_neg h1]
 clear h1
 by_cases h1:k=14
 ·rw[if_pos h1];decide
 rw[if_neg h1]
 clear h1
 by_cases h1:k=15
 ·rw[if_pos h1];decide
 rw[if_neg h1]
 clear h1
 by_cases h1:k=16
 ·rw[if_pos h1];decide
 rw[if_neg h1]
 clear h1
 by_cases h1:k=17
 ·rw[if_pos h1];decide
 rw[if_neg h1]
 clear h1
 by_cases h1:k=18
 ·rw[if_pos h1];decide
 rw[if_neg h1]
 clear h1
 by_cases h1:k=19
 ·rw[if_pos h1];decide
 rw[if_neg h1]
 decide
theorem Xg {k:UInt8} (h:Aj k≠[]):k < 20:=by
 by_cases h1:k < 20
 ·exact h1
 have hk:∀n:UInt8,n < 20→k≠n:=fun n hn e=>h1 (e▸hn)
 refine absurd ?_ h
 unfold Aj Hx
 rw[if_neg (hk 1 (by decide)),if_neg (hk 2 (by decide)),if_neg (hk 3 (by decide)),if_neg (hk 4 (by decide)),if_neg (hk 5 (by decide)),if_neg (hk 6 (by decide)),if_neg (hk 7 (by decide)),if_neg (hk 8 (by decide)),if_neg (hk 9 (by decide)),if_neg (hk 10 (by decide)),if_neg (hk 11 (by decide)),if_neg (hk 12 (by decide)),if_neg (hk 13 (by decide)),if_neg (hk 14 (by decide)),if_neg (hk 15 (by decide)),if_neg (hk 16 (by decide)),if_neg (hk 17 (by decide)),if_neg (hk 18 (by decide)),if_neg (hk 19 (by decide))]
theorem Adz {m:MgS} (h:Cc m=true):Aj m.k≠[]:=fun e=>by
 unfold Cc at h
 rw[if_pos e] at h
 cases h
theorem Ad0 {k:UInt8} (h:k < 20):Al k.toUInt64=[k]:=by
 have e:k.toUInt64 < 248:=by
  rw[UInt64.lt_iff_toNat_lt,UInt8.toNat_toUInt64]
  have:=UInt8.lt_iff_toNat_lt.1 h
  have h2:(20:UInt8).toNat=20:=rfl
  have h3:(248:UInt64).toNat=248:=rfl
  omega
 unfold Al
 rw[if_pos e]
 congr 1
 exact UInt8.toNat_inj.1 (by rw[UInt64.toNat_toUInt8,UInt8.toNat_toUInt64];have:=k.toNat_lt;omega)
theorem Ad1 {b:List UInt8} {m:MgS} (h:Ep b=some m):Cc m=true∧Cr m=b∧∃t,b=m.k::t∧G2 (Aj m.k) {Bt with k:=m.k} (t,false)=(m,([],false)):=by
 unfold Ep Lr at h
 cases hd:Ga (Aj (Ay 255 (b,false)).1.toUInt8) {Bt with k:=(Ay 255 (b,false)).1.toUInt8} (Ay 255 (b,false)).2.2 with
 |none=>rw[hd] at h;cases h
 |some r=>
  obtain⟨m',st'⟩:=r
  rw[hd] at h
  simp only at h
  by_cases he:st'=([],false)∧Cc m'=true
  ·rw[if_pos he] at h
   obtain rfl:=Option.some.inj h
   obtain⟨rfl,hc⟩:=he
   obtain⟨f1,f2⟩:=Nr (Ay 255 (b,false)).1.toUInt8
   obtain⟨a,c,d,e,_⟩:=Ady _ f1 f2 (fun _=>rfl) (fun _=>rfl) hd rfl
   obtain⟨a',_,c',d',_⟩:=Tf a
   have e:m'.k=(Ay 255 (b,false)).1.toUInt8:=e
   rw[←e] at c d
   have hk:=Xg (Adz hc)
   have hv:(Ay 255 (b,false)).1=m'.k.toUInt64:=by
    rw[e]
    refine UInt64.toNat_inj.1 ?_
    rw[UInt8.toNat_toUInt64,UInt64.toNat_toUInt8]
    have:=UInt64.le_iff_toNat_le.1 c'
    have h3:(255:UInt64).toNat=255:=rfl
    omega
   rw[hv] at d'
   have hb:b=Al m'.k.toUInt64++(Aj m'.k).flatMap (fbM m'):=d'.trans (congrArg _ (c.trans (List.append_nil _)))
   refine⟨hc,hb.symm,(Aj m'.k).flatMap (fbM m'),by rw[hb,Ad0 hk];rfl,?_⟩
   rw[show (((Aj m'.k).flatMap (fbM m'),false):Rs)=(Ay 255 (b,false)).2.2 from Prod.ext (by rw[c,List.append_nil]) a.symm]
   exact d
  ·rw[if_neg he] at h
   cases h
theorem A80 {c:UInt8} {st:Rs} {m:MgS} (h:m.sm.length=32):(Cu c st m).1.sm.length=32:=by
 have hs:(Bj (C7 115) st).1.s.length=32:=by
  show (C9 st).1.length=32
  unfold C9
  by_cases h1:st.1.length < 32
  ·rw[if_pos h1];rfl
  ·rw[if_neg h1,List.length_take];omega
 unfold Cu
 by_cases h1:c=97
 ·rw[if_pos h1];exact h
 rw[if_neg h1]
 by_cases h1:c=111
 ·rw[if_pos h1];exact h
 rw[if_neg h1]
 by_cases h1:c=99
 ·rw[if_pos h1];exact h
 rw[if_neg h1]
 by_cases h1:c=103
 ·rw[if_pos h1];exact h
 rw[if_neg h1]
 by_cases h1:c=114
 ·rw[if_pos h1];exact h
 rw[if_neg h1]
 by_cases h1:c=110
 ·rw[if_pos h1];exact h
 rw[if_neg h1]
 by_cases h1:c=115
 ·rw[if_pos h1,h1];exact hs
 rw[if_neg h1]
 by_cases h1:c=118
 ·rw[if_pos h1];exact h
 rw[if_neg h1]
 by_cases h1:c=120
 ·rw[if_pos h1];exact h
 rw[if_neg h1]
 by_cases h1:c=105
 ·rw[if_pos h1];exact h
 rw[if_neg h1]
 by_cases h1:c=112
 ·rw[if_pos h1];exact h
 rw[if_neg h1]
 exact h
theorem Xh:∀(f:List UInt8) {m:MgS} {st:Rs},m.sm.length=32→(G2 f m st).1.sm.length=32
 |[],_,_,h=>h
 |c::f,m,st,h=>Xh f (A80 h)
theorem Ki (b:List UInt8):E0 b=Ep b:=by
 cases hd:Ep b with
 |some m=>
  obtain⟨hc,he,t,ht,hr⟩:=Ad1 hd
  rw[ht,E0,hr]
  exact if_pos ⟨hc,he.trans ht⟩
 |none=>
  match b,hd with
  |[],_=>rfl
  |k::t,hd=>
   rw[E0]
   refine if_neg fun h=>?_
   have:=V7 h.1 (Xh (Aj k) rfl)
   rw[h.2,hd] at this
   cases this
end Go.Proofs.YtiaeollemmkclaaDoor
