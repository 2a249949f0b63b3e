import Derived.Test.YtiaeollemmkclaaDoorDrT
import Derived.Test.YtiaeollemmkclaaDoorPkI
/- Layer 16: msg.read, in its own world. -/
namespace Go.Proofs.YtiaeollemmkclaaDoor
open Go.RowKit
set_option linter.unusedSimpArgs false
set_option linter.unusedVariables false
theorem W9 (most:UInt64) (st:Rs):(Ay most st).1.toNat≤most.toNat:=by
 unfold Ay
 split
 ·split
  ·rename_i h
   exact UInt64.le_iff_toNat_le.1 h
  ·exact Nat.zero_le _
 ·exact Nat.zero_le _
theorem Adg (most:UInt64):∀(n:Nat) (acc:List UInt64) (st:Rs),(∀v∈acc,v.toNat≤most.toNat)→(De most n acc st).1.length≤acc.length+n∧∀v∈(De most n acc st).1,v.toNat≤most.toNat
 |0,acc,st,h=>⟨Nat.le_refl _,h⟩
 |n+1,acc,st,h=>by
  rw[De]
  split
  ·have:=Adg most n (acc++[(Ay most st).1]) (Ay most st).2.2 fun v hv=>by
    rcases List.mem_append.1 hv with hv|hv
    ·exact h v hv
    ·rw[List.mem_singleton.1 hv];exact W9 _ _
   refine⟨?_,this.2⟩
   have h1:=this.1
   rw[List.length_append] at h1
   have:[(Ay most st).1].length=1:=rfl
   omega
  ·exact⟨Nat.zero_le _,fun v hv=>by cases hv⟩
theorem Adh (many:Nat) (hm:many≤300) (each:Nat) (st:Rs):(Bv many each st).1≤many:=by
 have e:(Ai (many:Int)).toNat=many:=by
  unfold Ai
  rw[show (max (many:Int) 0).toNat=many by omega]
  exact ofNat_toNat hm
 have h:=W9 (Ai many) st
 rw[e] at h
 unfold Bv
 split
 ·split
  ·exact h
  ·exact Nat.zero_le _
 ·exact Nat.zero_le _
theorem Xa (many:Nat) (hm:many≤300) (most:UInt64) (st:Rs):(A5 many most st).1.length≤many∧∀v∈(A5 many most st).1,v.toNat≤most.toNat:=by
 have h:=Adh many hm 1 st
 unfold A5
 split
 ·have:=Adg most (Bv many 1 st).1 [] (Bv many 1 st).2.2 fun v hv=>by cases hv
  refine⟨?_,this.2⟩
  have h1:=this.1
  have:([]:List UInt64).length=0:=rfl
  omega
 ·exact⟨Nat.zero_le _,fun v hv=>by cases hv⟩
theorem A60 (many:Nat) (hm:many≤300) (st:Rs):(Dc many st).1.length≤many:=by
 have h:=Adh many hm 4 st
 unfold Dc
 split
 ·show (fours _).length≤many
  rw[Po,List.length_take]
  omega
 ·exact Nat.zero_le _
def Bi (s:RS):List UInt64×RS:=Dd 64 63 s
def Bm (s:RS):List UInt64×RS:=Dd 64 pm1 (Bi s).2
def F3 (s:RS):List Pr:=(Be (Bi s).1).zip (Bm s).1
def B1 (c:UInt8) (s:RS) (m:MgS):MgS×RS:=
 if c=97 then ({m with pl:=n64 (numS 15 s).1},(numS 15 s).2.2) else
 if c=111 then ({m with ot:=n64 (numS 15 s).1},(numS 15 s).2.2) else
 if c=99 then ({m with cl:=n64 (numS 63 s).1},(numS 63 s).2.2) else
 if c=103 then ({m with ge:=n64 (numS 1073741824 s).1},(numS 1073741824 s).2.2) else
 if c=110 then ({m with nu:=(numS pm1 s).1},(numS pm1 s).2.2) else
 if c=115 then ({m with sm:=(Dn s).1},(Dn s).2) else
 if c=105 then ({m with ids:=Be (Bi s).1},(Bi s).2) else
 if c=118 then ({m with ns:=(Dd 128 pm1 s).1},(Dd 128 pm1 s).2) else
 if c=112 then ({m with ps:=m.ps++F3 s},(Bm s).2) else
 if c=120 then ({m with xs:=(Do 32 s).1},(Do 32 s).2) else
 if c=114 then ({m with re:=n64 (numS 255 s).1},(numS 255 s).2.2) else
 (m,s)
theorem A61 (c:UInt8) (s:RS) (m:MgS):Jf c s.rs m=if c=112∧¬(Bi s).1.length=(Bm s).1.length then none else some ((B1 c s m).1,(B1 c s m).2.rs):=by
 have e1:=fun most=>Pi most s
 have e2:=fun many most=>Pk many most s
 have e3:=A48 s
 have e4:=fun many=>Ac2 many s
 have e5:=Pk 64 pm1 (Bi s).2
 have a1:(Bi s).1=(A5 64 63 s.rs).1:=congrArg Prod.fst (e2 64 63)
 have a2:(Bi s).2.rs=(A5 64 63 s.rs).2:=congrArg Prod.snd (e2 64 63)
 rw[a2] at e5
 have a3:(Bm s).1=(A5 64 pm1 (A5 64 63 s.rs).2).1:=congrArg Prod.fst e5
 have a4:(Bm s).2.rs=(A5 64 pm1 (A5 64 63 s.rs).2).2:=congrArg Prod.snd e5
 unfold Jf B1
 by_cases h:c=97
 ·have hn:¬(c=112∧¬(Bi s).1.length=(Bm s).1.length):=fun e=>by rw[h] at e;exact absurd e.1 (by decide)
  simp only[if_pos h,if_neg hn]
  rw[←e1];rfl
 have n97:=h
 simp only[if_neg h]
 clear h
 by_cases h:c=111
 ·have hn:¬(c=112∧¬(Bi s).1.length=(Bm s).1.length):=fun e=>by rw[h] at e;exact absurd e.1 (by decide)
  simp only[if_pos h,if_neg hn]
  rw[←e1];rfl
 have n111:=h
 simp only[if_neg h]
 clear h
 by_cases h:c=99
 ·have hn:¬(c=112∧¬(Bi s).1.length=(Bm s).1.length):=fun e=>by rw[h] at e;exact absurd e.1 (by decide)
  simp only[if_pos h,if_neg hn]
  rw[←e1];rfl
 have n99:=h
 simp only[if_neg h]
 clear h
 by_cases h:c=103
 ·have hn:¬(c=112∧¬(Bi s).1.length=(Bm s).1.length):=fun e=>by rw[h] at e;exact absurd e.1 (by decide)
  simp only[if_pos h,if_neg hn]
  rw[←e1];rfl
 have n103:=h
 simp only[if_neg h]
 clear h
 by_cases h:c=110
 ·have hn:¬(c=112∧¬(Bi s).1.length=(Bm s).1.length):=fun e=>by rw[h] at e;exact absurd e.1 (by decide)
  simp only[if_pos h,if_neg hn]
  rw[←e1]
 have n110:=h
 simp only[if_neg h]
 clear h
 by_cases h:c=115
 ·have hn:¬(c=112∧¬(Bi s).1.length=(Bm s).1.length):=fun e=>by rw[h] at e;exact absurd e.1 (by decide)
  simp only[if_pos h,if_neg hn]
  rw[←e3]
 have n115:=h
 simp only[if_neg h]
 clear h
 by_cases h:c=105
 ·have hn:¬(c=112∧¬(Bi s).1.length=(Bm s).1.length):=fun e=>by rw[h] at e;exact absurd e.1 (by decide)
  simp only[if_pos h,if_neg hn]
  rw[←a1,←a2]
 have n105:=h
 simp only[if_neg h]
 clear h
 by_cases h:c=118
 ·have hn:¬(c=112∧¬(Bi s).1.length=(Bm s).1.length):=fun e=>by rw[h] at e;exact absurd e.1 (by decide)
  simp only[if_pos h,if_neg hn]
  rw[←e2]
 have n118:=h
 simp only[if_neg h]
 clear h
 by_cases h:c=112
 ·simp only[if_pos h]
  rw[←a1,←a3,←a4]
  by_cases hl:(Bi s).1.length=(Bm s).1.length
  ·have hn:¬(c=112∧¬(Bi s).1.length=(Bm s).1.length):=fun e=>e.2 hl
   rw[if_neg hn,if_pos hl]
   rfl
  ·have hn:c=112∧¬(Bi s).1.length=(Bm s).1.length:=⟨h,hl⟩
   rw[if_pos hn,if_neg hl]
 have n112:=h
 simp only[if_neg h]
 clear h
 by_cases h:c=120
 ·have hn:¬(c=112∧¬(Bi s).1.length=(Bm s).1.length):=fun e=>by rw[h] at e;exact absurd e.1 (by decide)
  simp only[if_pos h,if_neg hn]
  rw[←e4]
 have n120:=h
 simp only[if_neg h]
 clear h
 by_cases h:c=114
 ·have hn:¬(c=112∧¬(Bi s).1.length=(Bm s).1.length):=fun e=>by rw[h] at e;exact absurd e.1 (by decide)
  simp only[if_pos h,if_neg hn]
  rw[←e1];rfl
 have n114:=h
 simp only[if_neg h]
 clear h
 rw[if_neg (fun e=>n112 e.1)]
theorem Tc (s:RS):(Bi s).1.length≤64∧∀v∈(Bi s).1,v.toNat≤63:=by
 have a1:(Bi s).1=(A5 64 63 s.rs).1:=congrArg Prod.fst (Pk 64 63 s)
 rw[a1]
 exact Xa 64 (by decide) 63 s.rs
theorem A62 (s:RS):(Bm s).1.length≤64:=by
 have a1:(Bm s).1=(A5 64 pm1 (Bi s).2.rs).1:=congrArg Prod.fst (Pk 64 pm1 (Bi s).2)
 rw[a1]
 exact (Xa 64 (by decide) pm1 _).1
theorem Nj (most:UInt64) (s:RS):(numS most s).1.toNat≤most.toNat:=by
 have:(numS most s).1=(Ay most s.rs).1:=congrArg Prod.fst (Pi most s)
 rw[this]
 exact W9 _ _
structure MgS.In (m:MgS) (p:Nat):Prop where
 sm:m.sm.length=32
 ids:m.ids.length≤64
 ns:m.ns.length≤128
 ps:m.ps.length≤p
 xs:m.xs.length≤32
theorem MgS.In.few {m:MgS} {p:Nat} (h:m.In p) (hp:p≤1000):m.Few:=by
 have:=h.ids
 have:=h.ns
 have:=h.ps
 have:=h.xs
 exact⟨h.sm,by omega,by omega,by omega,by omega⟩
theorem Adi (s:RS):(F3 s).length≤64:=by
 have h:=(Tc s).1
 unfold F3
 rw[List.length_zip,Iu]
 omega
theorem A63 {c:UInt8} {s:RS} {m:MgS} {p:Nat} (h:m.In p):(B1 c s m).1.In (p+64):=by
 have h0:m.In (p+64):=⟨h.sm,h.ids,h.ns,by have:=h.ps;omega,h.xs⟩
 have h1:=(Tc s).1
 have h2:=Adi s
 have h3:(Dd 128 pm1 s).1.length≤128:=by
  rw[show (Dd 128 pm1 s).1=(A5 128 pm1 s.rs).1 from congrArg Prod.fst (Pk 128 pm1 s)]
  exact (Xa 128 (by decide) pm1 _).1
 have h4:(Do 32 s).1.length≤32:=by
  rw[show (Do 32 s).1=(Dc 32 s.rs).1 from congrArg Prod.fst (Ac2 32 s)]
  exact A60 32 (by decide) _
 unfold B1
 by_cases hc:c=97
 ·simp only[if_pos hc];exact⟨h0.sm,h0.ids,h0.ns,h0.ps,h0.xs⟩
 simp only[if_neg hc]
 clear hc
 by_cases hc:c=111
 ·simp only[if_pos hc];exact⟨h0.sm,h0.ids,h0.ns,h0.ps,h0.xs⟩
 simp only[if_neg hc]
 clear hc
 by_cases hc:c=99
 ·simp only[if_pos hc];exact⟨h0.sm,h0.ids,h0.ns,h0.ps,h0.xs⟩
 simp only[if_neg hc]
 clear hc
 by_cases hc:c=103
 ·simp only[if_pos hc];exact⟨h0.sm,h0.ids,h0.ns,h0.ps,h0.xs⟩
 simp only[if_neg hc]
 clear hc
 by_cases hc:c=110
 ·simp only[if_pos hc];exact⟨h0.sm,h0.ids,h0.ns,h0.ps,h0.xs⟩
 simp only[if_neg hc]
 clear hc
 by_cases hc:c=115
 ·simp only[if_pos hc];exact⟨Ac4 s,h0.ids,h0.ns,h0.ps,h0.xs⟩
 simp only[if_neg hc]
 clear hc
 by_cases hc:c=105
 ·simp only[if_pos hc];exact⟨h0.sm,by show (Be _).length≤64;rw[Iu];exact h1,h0.ns,h0.ps,h0.xs⟩
 simp only[if_neg hc]
 clear hc
 by_cases hc:c=118
 ·simp only[if_pos hc];exact⟨h0.sm,h0.ids,h3,h0.ps,h0.xs⟩
 simp only[if_neg hc]
 clear hc
 by_cases hc:c=112
 ·simp only[if_pos hc];exact⟨h0.sm,h0.ids,h0.ns,by show (m.ps++F3 s).length≤p+64;have:=h.ps;rw[List.length_append];omega,h0.xs⟩
 simp only[if_neg hc]
 clear hc
 by_cases hc:c=120
 ·simp only[if_pos hc];exact⟨h0.sm,h0.ids,h0.ns,h0.ps,h4⟩
 simp only[if_neg hc]
 clear hc
 by_cases hc:c=114
 ·simp only[if_pos hc];exact⟨h0.sm,h0.ids,h0.ns,h0.ps,h0.xs⟩
 simp only[if_neg hc]
 clear hc
 exact h0
theorem A64 {c:UInt8} {s:RS} {m:MgS} {X:Nat→Prop} {w:World} (h:s.Ok X w):(B1 c s m).2.Ok X w:=by
 unfold B1 Bi Bm Bi
 by_cases hc:c=97
 ·simp only[if_pos hc];exact Hh h
 simp only[if_neg hc]
 clear hc
 by_cases hc:c=111
 ·simp only[if_pos hc];exact Hh h
 simp only[if_neg hc]
 clear hc
 by_cases hc:c=99
 ·simp only[if_pos hc];exact Hh h
 simp only[if_neg hc]
 clear hc
 by_cases hc:c=103
 ·simp only[if_pos hc];exact Hh h
 simp only[if_neg hc]
 clear hc
 by_cases hc:c=110
 ·simp only[if_pos hc];exact Hh h
 simp only[if_neg hc]
 clear hc
 by_cases hc:c=115
 ·simp only[if_pos hc];exact Wn h
 simp only[if_neg hc]
 clear hc
 by_cases hc:c=105
 ·simp only[if_pos hc];exact Jj h
 simp only[if_neg hc]
 clear hc
 by_cases hc:c=118
 ·simp only[if_pos hc];exact Jj h
 simp only[if_neg hc]
 clear hc
 by_cases hc:c=112
 ·simp only[if_pos hc];exact Jj (Jj h)
 simp only[if_neg hc]
 clear hc
 by_cases hc:c=120
 ·simp only[if_pos hc];exact Wr h
 simp only[if_neg hc]
 clear hc
 by_cases hc:c=114
 ·simp only[if_pos hc];exact Hh h
 simp only[if_neg hc]
 clear hc
 exact h
theorem A65 (s:RS) (m:MgS):B1 97 s m=({m with pl:=n64 (numS 15 s).1},(numS 15 s).2.2):=rfl
theorem A66 (s:RS) (m:MgS):B1 111 s m=({m with ot:=n64 (numS 15 s).1},(numS 15 s).2.2):=rfl
theorem A67 (s:RS) (m:MgS):B1 99 s m=({m with cl:=n64 (numS 63 s).1},(numS 63 s).2.2):=rfl
theorem A68 (s:RS) (m:MgS):B1 103 s m=({m with ge:=n64 (numS 1073741824 s).1},(numS 1073741824 s).2.2):=rfl
theorem A69 (s:RS) (m:MgS):B1 110 s m=({m with nu:=(numS pm1 s).1},(numS pm1 s).2.2):=rfl
theorem A7a (s:RS) (m:MgS):B1 115 s m=({m with sm:=(Dn s).1},(Dn s).2):=rfl
theorem A7b (s:RS) (m:MgS):B1 105 s m=({m with ids:=Be (Bi s).1},(Bi s).2):=rfl
theorem A7c (s:RS) (m:MgS):B1 118 s m=({m with ns:=(Dd 128 pm1 s).1},(Dd 128 pm1 s).2):=rfl
theorem A7d (s:RS) (m:MgS):B1 112 s m=({m with ps:=m.ps++F3 s},(Bm s).2):=rfl
theorem A7e (s:RS) (m:MgS):B1 120 s m=({m with xs:=(Do 32 s).1},(Do 32 s).2):=rfl
theorem A7f (s:RS) (m:MgS):B1 114 s m=({m with re:=n64 (numS 255 s).1},(numS 255 s).2.2):=rfl
theorem Adj (a:List UInt64) (b:List UInt64) (i:Nat) (h:i < a.length) (h2:i < b.length):((Be a).zip b).take (i+1)=((Be a).zip b).take i++[(n64 (ix a i),ix b i)]:=by
 have hl:i < ((Be a).zip b).length:=by rw[List.length_zip,Iu];omega
 rw[Nd hl]
 have e1:ix ((Be a).zip b) i=((Be a).zip b)[i]:=by rw[ix,List.getD_eq_getElem?_getD,List.getElem?_eq_getElem hl];rfl
 have e2:ix a i=a[i]:=by rw[ix,List.getD_eq_getElem?_getD,List.getElem?_eq_getElem h];rfl
 have e3:ix b i=b[i]:=by rw[ix,List.getD_eq_getElem?_getD,List.getElem?_eq_getElem h2];rfl
 have hl2:i < (Be a).length:=by rw[Iu];exact h
 have e4:(Be a)[i]=n64 a[i]:=List.getElem_map (fun v:UInt64=>((v.toNat:Nat):Int))
 rw[e1,e2,e3,List.getElem_zip,e4]
attribute [local irreducible] Af Ad Av Bh Bf A6 Aw A9
attribute [local irreducible] mgO wiM B6 may chI okV Fi Be numS Dd Do Dn Bi Bm F3
def RdM (c:UInt8) (s t:RS) (m m':MgS) (b:Bool) (X:Nat→Prop) (w:World):Prop:=∀(g g2:Nat) (γ:List Nm),Sat w X γ [.pin g 132 (.c [.v (.slice s.A s.l.length s.c),.v (.bool s.bad)]),.pin g2 89 (.c (mgO m 2 3 4 5)),.own 3 (.i64 m.ids),.own 27 (.u64 m.ns),.onn 160 2 (.c (pcs m.ps)),.own 136 (.u32 m.xs)] w→
 Calls Tryd.prog 93 (List.map (Sv.val γ) [.x (.a (.p 0 0)),.x (.a (.p 1 0)),.x (.a (.v (.int .i32 (chI c))))]).toArray w fun e w'=>∃γ1,e=.returned (.bool b)∧Sat w X γ1
  [.pin g 132 (.c [.v (.slice t.A t.l.length t.c),.v (.bool t.bad)]),.pin g2 89 (.c (mgO m' 2 3 4 5)),.own 3 (.i64 m'.ids),.own 27 (.u64 m'.ns),.onn 160 2 (.c (pcs m'.ps)),.own 136 (.u32 m'.xs)] w'
section
variable {X:Nat→Prop} {w:World} {s:RS} {m:MgS} {p:Nat}
set_option maxRecDepth 100000 in
set_option maxHeartbeats 2000000 in
theorem A7g (hs:s.Ok X w) (hm:m.In p):RdM 97 s (B1 97 s m).2 m (B1 97 s m).1 true X w:=fun g g2 γ hS=>by
 obtain⟨f0,f1,f2,f3,f4,f5,f38,f39,f40,f41,f42⟩:=G1 hm.sm 2 3 4 5
 obtain⟨s0,s1,s2,s3,s4,s5,s38,s39,s40,s41,s42⟩:=H5 hm.sm 2 3 4 5
 have ssum:=Iz hm.sm 2 3 4 5
 have fl:∀a b c d,(mgO m a b c d).length=43:=fun a b c d=>Eu hm.sm
 have hXg:=Fk hS rfl
 have ob:=fun (m:MgS) a b c d n=>Dx m a b c d n
 simp only[At.bnd] at ob
 have g97:=B0 (c:=97) (n:=97) rfl Ey
 rw[A65]
 refine Cy (n:=123) Tryd.func93 rfl Tryd.ntmps93 _ hS (by simp) (.x (.a (.v (.bool true)))) _ ?_
 have hq:=Nj 15 s
 obtain⟨q,hqe⟩:∃q,q=numS 15 s:=⟨_,rfl⟩
 have hR:∀X w,s.Ok X w→RdG 11 [.x (.a (.v (.int .u64 15)))] (.x (.a (.v (vU64 q.1)))) s q.2.2 [] X w:=fun X w h=>by rw[hqe];exact Lz 15 h
 rw[←hqe] at hq ⊢
 have hq:q.1.toNat≤15:=hq
 have hn:n64 q.1=((q.1.toNat:Nat):Int):=rfl
 have hx:-9223372036854775808≤n64 q.1:=by omega
 have hx2:n64 q.1≤9223372036854775807:=by omega
 simp (maxSteps:=10^6) only[g97,push_cast,↓reduceIte,reduceCtorEq,Nat.reduceEqDiff,Nat.reduceLT,Nat.reduceAdd]
 (repeat (refine And.intro (by first|omega|decide) ?_))
 refine Bk rfl Lf rfl (Gz (k0:=0) (s:=s) (args:=[.x (.a (.v (.int .u64 15)))]) (by simp (maxSteps:=10^6) only[ob,Ag,push_cast,Nat.reduceLT,Nat.reduceAdd]) rfl (by simp only[push_cast]) (by simp only[push_cast]) (fun _ _=>rfl) (Fl hs rfl hXg) hR) (Aa rfl) (fun _=>by simp (maxSteps:=10^6) only[ob,Ag,push_cast,Nat.reduceLT,Nat.reduceAdd]) ?_
 simp (maxSteps:=10^6) only[fl,s1,Bq,↓Ci,hx,hx2,undef,push_cast,↓reduceIte,reduceCtorEq,Nat.reduceEqDiff,Nat.reduceLT,Nat.reduceAdd,Int.reduceNeg]
 refine Bp [0,1,2,3,4,5] ?_
 simp (maxSteps:=10^6) only[ob,Bq,Ag,↓Ci,push_cast,↓reduceIte,reduceCtorEq,Nat.reduceEqDiff,Nat.reduceLT,Nat.reduceAdd]
set_option maxRecDepth 100000 in
set_option maxHeartbeats 2000000 in
theorem A7h (hs:s.Ok X w) (hm:m.In p):RdM 111 s (B1 111 s m).2 m (B1 111 s m).1 true X w:=fun g g2 γ hS=>by
 obtain⟨f0,f1,f2,f3,f4,f5,f38,f39,f40,f41,f42⟩:=G1 hm.sm 2 3 4 5
 obtain⟨s0,s1,s2,s3,s4,s5,s38,s39,s40,s41,s42⟩:=H5 hm.sm 2 3 4 5
 have ssum:=Iz hm.sm 2 3 4 5
 have fl:∀a b c d,(mgO m a b c d).length=43:=fun a b c d=>Eu hm.sm
 have hXg:=Fk hS rfl
 have ob:=fun (m:MgS) a b c d n=>Dx m a b c d n
 simp only[At.bnd] at ob
 have g97:=Au (c:=111) (n:=97) (by decide) Ey
 have g111:=B0 (c:=111) (n:=111) rfl Fj
 rw[A66]
 refine Cy (n:=123) Tryd.func93 rfl Tryd.ntmps93 _ hS (by simp) (.x (.a (.v (.bool true)))) _ ?_
 have hq:=Nj 15 s
 obtain⟨q,hqe⟩:∃q,q=numS 15 s:=⟨_,rfl⟩
 have hR:∀X w,s.Ok X w→RdG 11 [.x (.a (.v (.int .u64 15)))] (.x (.a (.v (vU64 q.1)))) s q.2.2 [] X w:=fun X w h=>by rw[hqe];exact Lz 15 h
 rw[←hqe] at hq ⊢
 have hq:q.1.toNat≤15:=hq
 have hn:n64 q.1=((q.1.toNat:Nat):Int):=rfl
 have hx:-9223372036854775808≤n64 q.1:=by omega
 have hx2:n64 q.1≤9223372036854775807:=by omega
 simp (maxSteps:=10^6) only[g97,g111,push_cast,↓reduceIte,reduceCtorEq,Nat.reduceEqDiff,Nat.reduceLT,Nat.reduceAdd]
 (repeat (refine And.intro (by first|omega|decide) ?_))
 refine Bk rfl Lf rfl (Gz (k0:=0) (s:=s) (args:=[.x (.a (.v (.int .u64 15)))]) (by simp (maxSteps:=10^6) only[ob,Ag,push_cast,Nat.reduceLT,Nat.reduceAdd]) rfl (by simp only[push_cast]) (by simp only[push_cast]) (fun _ _=>rfl) (Fl hs rfl hXg) hR) (Aa rfl) (fun _=>by simp (maxSteps:=10^6) only[ob,Ag,push_cast,Nat.reduceLT,Nat.reduceAdd]) ?_
 simp (maxSteps:=10^6) only[fl,s2,Bq,↓Ci,hx,hx2,undef,push_cast,↓reduceIte,reduceCtorEq,Nat.reduceEqDiff,Nat.reduceLT,Nat.reduceAdd,Int.reduceNeg]
 refine Bp [0,1,2,3,4,5] ?_
 simp (maxSteps:=10^6) only[ob,Bq,Ag,↓Ci,push_cast,↓reduceIte,reduceCtorEq,Nat.reduceEqDiff,Nat.reduceLT,Nat.reduceAdd]
set_option maxRecDepth 100000 in
set_option maxHeartbeats 2000000 in
theorem A7i (hs:s.Ok X w) (hm:m.In p):RdM 99 s (B1 99 s m).2 m (B1 99 s m).1 true X w:=fun g g2 γ hS=>by
 obtain⟨f0,f1,f2,f3,f4,f5,f38,f39,f40,f41,f42⟩:=G1 hm.sm 2 3 4 5
 obtain⟨s0,s1,s2,s3,s4,s5,s38,s39,s40,s41,s42⟩:=H5 hm.sm 2 3 4 5
 have ssum:=Iz hm.sm 2 3 4 5
 have fl:∀a b c d,(mgO m a b c d).length=43:=fun a b c d=>Eu hm.sm
 have hXg:=Fk hS rfl
 have ob:=fun (m:MgS) a b c d n=>Dx m a b c d n
 simp only[At.bnd] at ob
 have g97:=Au (c:=99) (n:=97) (by decide) Ey
 have g111:=Au (c:=99) (n:=111) (by decide) Fj
 have g99:=B0 (c:=99) (n:=99) rfl F0
 rw[A67]
 refine Cy (n:=123) Tryd.func93 rfl Tryd.ntmps93 _ hS (by simp) (.x (.a (.v (.bool true)))) _ ?_
 have hq:=Nj 63 s
 obtain⟨q,hqe⟩:∃q,q=numS 63 s:=⟨_,rfl⟩
 have hR:∀X w,s.Ok X w→RdG 11 [.x (.a (.v (.int .u64 63)))] (.x (.a (.v (vU64 q.1)))) s q.2.2 [] X w:=fun X w h=>by rw[hqe];exact Lz 63 h
 rw[←hqe] at hq ⊢
 have hq:q.1.toNat≤63:=hq
 have hn:n64 q.1=((q.1.toNat:Nat):Int):=rfl
 have hx:-9223372036854775808≤n64 q.1:=by omega
 have hx2:n64 q.1≤9223372036854775807:=by omega
 simp (maxSteps:=10^6) only[g97,g111,g99,push_cast,↓reduceIte,reduceCtorEq,Nat.reduceEqDiff,Nat.reduceLT,Nat.reduceAdd]
 (repeat (refine And.intro (by first|omega|decide) ?_))
 refine Bk rfl Lf rfl (Gz (k0:=0) (s:=s) (args:=[.x (.a (.v (.int .u64 63)))]) (by simp (maxSteps:=10^6) only[ob,Ag,push_cast,Nat.reduceLT,Nat.reduceAdd]) rfl (by simp only[push_cast]) (by simp only[push_cast]) (fun _ _=>rfl) (Fl hs rfl hXg) hR) (Aa rfl) (fun _=>by simp (maxSteps:=10^6) only[ob,Ag,push_cast,Nat.reduceLT,Nat.reduceAdd]) ?_
 simp (maxSteps:=10^6) only[fl,s3,Bq,↓Ci,hx,hx2,undef,push_cast,↓reduceIte,reduceCtorEq,Nat.reduceEqDiff,Nat.reduceLT,Nat.reduceAdd,Int.reduceNeg]
 refine Bp [0,1,2,3,4,5] ?_
 simp (maxSteps:=10^6) only[ob,Bq,Ag,↓Ci,push_cast,↓reduceIte,reduceCtorEq,Nat.reduceEqDiff,Nat.reduceLT,Nat.reduceAdd]
set_option maxRecDepth 100000 in
set_option maxHeartbeats 2000000 in
theorem A7j (hs:s.Ok X w) (hm:m.In p):RdM 103 s (B1 103 s m).2 m (B1 103 s m).1 true X w:=fun g g2 γ hS=>by
 obtain⟨f0,f1,f2,f3,f4,f5,f38,f39,f40,f41,f42⟩:=G1 hm.sm 2 3 4 5
 obtain⟨s0,s1,s2,s3,s4,s5,s38,s39,s40,s41,s42⟩:=H5 hm.sm 2 3 4 5
 have ssum:=Iz hm.sm 2 3 4 5
 have fl:∀a b c d,(mgO m a b c d).length=43:=fun a b c d=>Eu hm.sm
 have hXg:=Fk hS rfl
 have ob:=fun (m:MgS) a b c d n=>Dx m a b c d n
 simp only[At.bnd] at ob
 have g97:=Au (c:=103) (n:=97) (by decide) Ey
 have g111:=Au (c:=103) (n:=111) (by decide) Fj
 have g99:=Au (c:=103) (n:=99) (by decide) F0
 have g103:=B0 (c:=103) (n:=103) rfl Gb
 rw[A68]
 refine Cy (n:=123) Tryd.func93 rfl Tryd.ntmps93 _ hS (by simp) (.x (.a (.v (.bool true)))) _ ?_
 have hq:=Nj 1073741824 s
 obtain⟨q,hqe⟩:∃q,q=numS 1073741824 s:=⟨_,rfl⟩
 have hR:∀X w,s.Ok X w→RdG 11 [.x (.a (.v (.int .u64 1073741824)))] (.x (.a (.v (vU64 q.1)))) s q.2.2 [] X w:=fun X w h=>by rw[hqe];exact Lz 1073741824 h
 rw[←hqe] at hq ⊢
 have hq:q.1.toNat≤1073741824:=hq
 have hn:n64 q.1=((q.1.toNat:Nat):Int):=rfl
 have hx:-9223372036854775808≤n64 q.1:=by omega
 have hx2:n64 q.1≤9223372036854775807:=by omega
 simp (maxSteps:=10^6) only[g97,g111,g99,g103,push_cast,↓reduceIte,reduceCtorEq,Nat.reduceEqDiff,Nat.reduceLT,Nat.reduceAdd]
 (repeat (refine And.intro (by first|omega|decide) ?_))
 refine Bk rfl Lf rfl (Gz (k0:=0) (s:=s) (args:=[.x (.a (.v (.int .u64 1073741824)))]) (by simp (maxSteps:=10^6) only[ob,Ag,push_cast,Nat.reduceLT,Nat.reduceAdd]) rfl (by simp only[push_cast]) (by simp only[push_cast]) (fun _ _=>rfl) (Fl hs rfl hXg) hR) (Aa rfl) (fun _=>by simp (maxSteps:=10^6) only[ob,Ag,push_cast,Nat.reduceLT,Nat.reduceAdd]) ?_
 simp (maxSteps:=10^6) only[fl,s4,Bq,↓Ci,hx,hx2,undef,push_cast,↓reduceIte,reduceCtorEq,Nat.reduceEqDiff,Nat.reduceLT,Nat.reduceAdd,Int.reduceNeg]
 refine Bp [0,1,2,3,4,5] ?_
 simp (maxSteps:=10^6) only[ob,Bq,Ag,↓Ci,push_cast,↓reduceIte,reduceCtorEq,Nat.reduceEqDiff,Nat.reduceLT,Nat.reduceAdd]
set_option maxRecDepth 100000 in
set_option maxHeartbeats 2000000 in
theorem A7k (hs:s.Ok X w) (hm:m.In p):RdM 110 s (B1 110 s m).2 m (B1 110 s m).1 true X w:=fun g g2 γ hS=>by
 obtain⟨f0,f1,f2,f3,f4,f5,f38,f39,f40,f41,f42⟩:=G1 hm.sm 2 3 4 5
 obtain⟨s0,s1,s2,s3,s4,s5,s38,s39,s40,s41,s42⟩:=H5 hm.sm 2 3 4 5
 have ssum:=Iz hm.sm 2 3 4 5
 have fl:∀a b c d,(mgO m a b c d).length=43:=fun a b c d=>Eu hm.sm
 have hXg:=Fk hS rfl
 have ob:=fun (m:MgS) a b c d n=>Dx m a b c d n
 simp only[At.bnd] at ob
 have g97:=Au (c:=110) (n:=97) (by decide) Ey
 have g111:=Au (c:=110) (n:=111) (by decide) Fj
 have g99:=Au (c:=110) (n:=99) (by decide) F0
 have g103:=Au (c:=110) (n:=103) (by decide) Gb
 have g110:=B0 (c:=110) (n:=110) rfl Gx
 rw[A69]
 refine Cy (n:=123) Tryd.func93 rfl Tryd.ntmps93 _ hS (by simp) (.x (.a (.v (.bool true)))) _ ?_
 have hq:=Nj 2305843009213693950 s
 obtain⟨q,hqe⟩:∃q,q=numS 2305843009213693950 s:=⟨_,rfl⟩
 have hR:∀X w,s.Ok X w→RdG 11 [.x (.a (.v (.int .u64 2305843009213693950)))] (.x (.a (.v (vU64 q.1)))) s q.2.2 [] X w:=fun X w h=>by rw[hqe];exact Lz 2305843009213693950 h
 rw[show pm1=2305843009213693950 from rfl,←hqe]
 rw[←hqe] at hq
 have hq:q.1.toNat≤2305843009213693950:=hq
 have hn:n64 q.1=((q.1.toNat:Nat):Int):=rfl
 have hx:-9223372036854775808≤n64 q.1:=by omega
 have hx2:n64 q.1≤9223372036854775807:=by omega
 simp (maxSteps:=10^6) only[g97,g111,g99,g103,g110,push_cast,↓reduceIte,reduceCtorEq,Nat.reduceEqDiff,Nat.reduceLT,Nat.reduceAdd]
 (repeat (refine And.intro (by first|omega|decide) ?_))
 refine Bk rfl Lf rfl (Gz (k0:=0) (s:=s) (args:=[.x (.a (.v (.int .u64 2305843009213693950)))]) (by simp (maxSteps:=10^6) only[ob,Ag,push_cast,Nat.reduceLT,Nat.reduceAdd]) rfl (by simp only[push_cast]) (by simp only[push_cast]) (fun _ _=>rfl) (Fl hs rfl hXg) hR) (Aa rfl) (fun _=>by simp (maxSteps:=10^6) only[ob,Ag,push_cast,Nat.reduceLT,Nat.reduceAdd]) ?_
 simp (maxSteps:=10^6) only[fl,s5,Bq,↓Ci,undef,push_cast,↓reduceIte,reduceCtorEq,Nat.reduceEqDiff,Nat.reduceLT,Nat.reduceAdd]
 refine Bp [0,1,2,3,4,5] ?_
 simp (maxSteps:=10^6) only[ob,Bq,Ag,↓Ci,push_cast,↓reduceIte,reduceCtorEq,Nat.reduceEqDiff,Nat.reduceLT,Nat.reduceAdd]
set_option maxRecDepth 100000 in
set_option maxHeartbeats 2000000 in
theorem A7l (hs:s.Ok X w) (hm:m.In p):RdM 115 s (B1 115 s m).2 m (B1 115 s m).1 true X w:=fun g g2 γ hS=>by
 obtain⟨f0,f1,f2,f3,f4,f5,f38,f39,f40,f41,f42⟩:=G1 hm.sm 2 3 4 5
 obtain⟨s0,s1,s2,s3,s4,s5,s38,s39,s40,s41,s42⟩:=H5 hm.sm 2 3 4 5
 have ssum:=Iz hm.sm 2 3 4 5
 have fl:∀a b c d,(mgO m a b c d).length=43:=fun a b c d=>Eu hm.sm
 have hXg:=Fk hS rfl
 have ob:=fun (m:MgS) a b c d n=>Dx m a b c d n
 simp only[At.bnd] at ob
 have g97:=Au (c:=115) (n:=97) (by decide) Ey
 have g111:=Au (c:=115) (n:=111) (by decide) Fj
 have g99:=Au (c:=115) (n:=99) (by decide) F0
 have g103:=Au (c:=115) (n:=103) (by decide) Gb
 have g110:=Au (c:=115) (n:=110) (by decide) Gx
 have g115:=B0 (c:=115) (n:=115) rfl Hg
 rw[A7a]
 refine Cy (n:=123) Tryd.func93 rfl Tryd.ntmps93 _ hS (by simp) (.x (.a (.v (.bool true)))) _ ?_
 have hs32:=Ac4 s
 obtain⟨q,hqe⟩:∃q,q=Dn s:=⟨_,rfl⟩
 have hR:∀X w,s.Ok X w→RdG 15 [] (.x (.a8 q.1)) s q.2 [] X w:=fun X w h=>by rw[hqe];exact A49 h
 rw[←hqe] at hs32 ⊢
 have hd38:∀a b c d,(List.drop 38 (mgO m a b c d)).length=5:=fun a b c d=>by rw[List.length_drop,fl]
 have ht6:∀a b c d,(List.take 6 (mgO m a b c d)).length=6:=fun a b c d=>by rw[List.length_take,fl];rfl
 simp (maxSteps:=10^6) only[g97,g111,g99,g103,g110,g115,push_cast,↓reduceIte,reduceCtorEq,Nat.reduceEqDiff,Nat.reduceLT,Nat.reduceAdd]
 (repeat (refine And.intro (by first|omega|decide) ?_))
 refine Bk rfl Ay9 rfl (Gz (k0:=0) (s:=s) (args:=[]) (by simp (maxSteps:=10^6) only[ob,Ag,push_cast,Nat.reduceLT,Nat.reduceAdd]) rfl (by simp only[push_cast]) (by simp only[push_cast]) (fun _ _=>rfl) (Fl hs rfl hXg) hR) (Aa rfl) (fun _=>by simp (maxSteps:=10^6) only[ob,Ag,push_cast,Nat.reduceLT,Nat.reduceAdd]) ?_
 simp (maxSteps:=10^6) only[fl,ssum,Bq,↓Ci,hs32,undef,push_cast,↓reduceIte,reduceCtorEq,Nat.reduceEqDiff,Nat.reduceLT,Nat.reduceLeDiff,Nat.reduceAdd]
 refine Bp [0,1,2,3,4,5] ?_
 simp (maxSteps:=10^6) only[ob,Bq,Ag,↓Ci,push_cast,↓reduceIte,reduceCtorEq,Nat.reduceEqDiff,Nat.reduceLT,Nat.reduceAdd]
set_option maxRecDepth 100000 in
set_option maxHeartbeats 2000000 in
theorem A7m (hs:s.Ok X w) (hm:m.In p):RdM 105 s (B1 105 s m).2 m (B1 105 s m).1 true X w:=fun g g2 γ hS=>by
 obtain⟨f0,f1,f2,f3,f4,f5,f38,f39,f40,f41,f42⟩:=G1 hm.sm 2 3 4 5
 obtain⟨s0,s1,s2,s3,s4,s5,s38,s39,s40,s41,s42⟩:=H5 hm.sm 2 3 4 5
 have ssum:=Iz hm.sm 2 3 4 5
 have fl:∀a b c d,(mgO m a b c d).length=43:=fun a b c d=>Eu hm.sm
 have hXg:=Fk hS rfl
 have ob:=fun (m:MgS) a b c d n=>Dx m a b c d n
 simp only[At.bnd] at ob
 have g97:=Au (c:=105) (n:=97) (by decide) Ey
 have g111:=Au (c:=105) (n:=111) (by decide) Fj
 have g99:=Au (c:=105) (n:=99) (by decide) F0
 have g103:=Au (c:=105) (n:=103) (by decide) Gb
 have g110:=Au (c:=105) (n:=110) (by decide) Gx
 have g115:=Au (c:=105) (n:=115) (by decide) Hg
 have g105:=B0 (c:=105) (n:=105) rfl H0
 rw[A7b]
 refine Cy (n:=123) Tryd.func93 rfl Tryd.ntmps93 _ hS (by simp) (.x (.a (.v (.bool true)))) _ ?_
 obtain⟨hq1,hq2⟩:=Tc s
 obtain⟨q,hqe⟩:∃q,q=Bi s:=⟨_,rfl⟩
 have hR:∀X w,s.Ok X w→RdG 12 [.x (.a (.v (.int .i64 64))),.x (.a (.v (.int .u64 63)))] (.x (.a (.o 1))) s q.2 [.own 27 (.u64 q.1)] X w:=fun X w h=>by rw[hqe];unfold Bi;exact S8 64 63 (by decide) h
 rw[←hqe] at hq1 hq2 ⊢
 rw[A6t m 2 3 4 5 (Be q.1)]
 simp (maxSteps:=10^6) only[g97,g111,g99,g103,g110,g115,g105,push_cast,↓reduceIte,reduceCtorEq,Nat.reduceEqDiff,Nat.reduceLT,Nat.reduceAdd]
 (repeat (refine And.intro (by first|omega|decide) ?_))
 refine Bk rfl R3 rfl (Gz (k0:=0) (s:=s) (args:=[.x (.a (.v (.int .i64 64))),.x (.a (.v (.int .u64 63)))]) (by simp (maxSteps:=10^6) only[ob,Ag,push_cast,Nat.reduceLT,Nat.reduceAdd]) rfl (by simp only[push_cast,Nat.reduceAdd]) (by simp only[push_cast,Nat.reduceLT,Nat.reduceAdd]) (fun _ _=>rfl) (Fl hs rfl hXg) hR) (Aa rfl) (fun _=>by simp (maxSteps:=10^6) only[ob,Ag,push_cast,Nat.reduceLT,Nat.reduceAdd]) ?_
 simp (maxSteps:=10^6) only[Bq,↓Ci,push_cast,↓reduceIte,Nat.reduceEqDiff,Nat.reduceLT,Nat.reduceAdd]
 (repeat (refine And.intro (by first|omega|decide) ?_))
 refine Fw rfl Azy rfl (A3y (l:=q.1) (by omega) (fun i hi=>by
  have hmem:ix q.1 i∈q.1:=by
   rw[ix,List.getD_eq_getElem?_getD,List.getElem?_eq_getElem hi]
   exact List.getElem_mem hi
  have:=hq2 _ hmem
  omega) (Fy rfl (fun _=>rfl)) (by simp (maxSteps:=10^6) only[ob,Ag,push_cast,Nat.reduceLT,Nat.reduceAdd])) (Aa rfl) (by simp (maxSteps:=10^6) only[ob,Ag,push_cast,Nat.reduceLT,Nat.reduceAdd]) ?_
 simp (maxSteps:=10^6) only[fl,s38,undef,push_cast,↓reduceIte,reduceCtorEq,Nat.reduceEqDiff,Nat.reduceLT,Nat.reduceAdd]
 refine Bp [0,1,8,3,4,5] ?_
 simp (maxSteps:=10^6) only[ob,Bq,Ag,↓Ci,push_cast,↓reduceIte,reduceCtorEq,Nat.reduceEqDiff,Nat.reduceLT,Nat.reduceAdd]
set_option maxRecDepth 100000 in
set_option maxHeartbeats 2000000 in
theorem A7n (hs:s.Ok X w) (hm:m.In p):RdM 118 s (B1 118 s m).2 m (B1 118 s m).1 true X w:=fun g g2 γ hS=>by
 obtain⟨f0,f1,f2,f3,f4,f5,f38,f39,f40,f41,f42⟩:=G1 hm.sm 2 3 4 5
 obtain⟨s0,s1,s2,s3,s4,s5,s38,s39,s40,s41,s42⟩:=H5 hm.sm 2 3 4 5
 have ssum:=Iz hm.sm 2 3 4 5
 have fl:∀a b c d,(mgO m a b c d).length=43:=fun a b c d=>Eu hm.sm
 have hXg:=Fk hS rfl
 have ob:=fun (m:MgS) a b c d n=>Dx m a b c d n
 simp only[At.bnd] at ob
 have g97:=Au (c:=118) (n:=97) (by decide) Ey
 have g111:=Au (c:=118) (n:=111) (by decide) Fj
 have g99:=Au (c:=118) (n:=99) (by decide) F0
 have g103:=Au (c:=118) (n:=103) (by decide) Gb
 have g110:=Au (c:=118) (n:=110) (by decide) Gx
 have g115:=Au (c:=118) (n:=115) (by decide) Hg
 have g105:=Au (c:=118) (n:=105) (by decide) H0
 have g118:=B0 (c:=118) (n:=118) rfl Iq
 rw[A7c]
 refine Cy (n:=123) Tryd.func93 rfl Tryd.ntmps93 _ hS (by simp) (.x (.a (.v (.bool true)))) _ ?_
 obtain⟨q,hqe⟩:∃q,q=Dd 128 pm1 s:=⟨_,rfl⟩
 have hR:∀X w,s.Ok X w→RdG 12 [.x (.a (.v (.int .i64 128))),.x (.a (.v (.int .u64 2305843009213693950)))] (.x (.a (.o 1))) s q.2 [.own 27 (.u64 q.1)] X w:=fun X w h=>by rw[hqe];exact S8 128 pm1 (by decide) h
 rw[←hqe]
 rw[A6u m 2 3 4 5 q.1]
 simp (maxSteps:=10^6) only[g97,g111,g99,g103,g110,g115,g105,g118,push_cast,↓reduceIte,reduceCtorEq,Nat.reduceEqDiff,Nat.reduceLT,Nat.reduceAdd]
 (repeat (refine And.intro (by first|omega|decide) ?_))
 refine Bk rfl R3 rfl (Gz (k0:=0) (s:=s) (args:=[.x (.a (.v (.int .i64 128))),.x (.a (.v (.int .u64 2305843009213693950)))]) (by simp (maxSteps:=10^6) only[ob,Ag,push_cast,Nat.reduceLT,Nat.reduceAdd]) rfl (by simp only[push_cast,Nat.reduceAdd]) (by simp only[push_cast,Nat.reduceLT,Nat.reduceAdd]) (fun _ _=>rfl) (Fl hs rfl hXg) hR) (Aa rfl) (fun _=>by simp (maxSteps:=10^6) only[ob,Ag,push_cast,Nat.reduceLT,Nat.reduceAdd]) ?_
 simp (maxSteps:=10^6) only[fl,s39,Bq,↓Ci,undef,push_cast,↓reduceIte,reduceCtorEq,Nat.reduceEqDiff,Nat.reduceLT,Nat.reduceAdd]
 refine Bp [0,1,2,7,4,5] ?_
 simp (maxSteps:=10^6) only[ob,Bq,Ag,↓Ci,push_cast,↓reduceIte,reduceCtorEq,Nat.reduceEqDiff,Nat.reduceLT,Nat.reduceAdd]
set_option maxRecDepth 100000 in
set_option maxHeartbeats 2000000 in
theorem A7o (hs:s.Ok X w) (hm:m.In p):RdM 120 s (B1 120 s m).2 m (B1 120 s m).1 true X w:=fun g g2 γ hS=>by
 obtain⟨f0,f1,f2,f3,f4,f5,f38,f39,f40,f41,f42⟩:=G1 hm.sm 2 3 4 5
 obtain⟨s0,s1,s2,s3,s4,s5,s38,s39,s40,s41,s42⟩:=H5 hm.sm 2 3 4 5
 have ssum:=Iz hm.sm 2 3 4 5
 have fl:∀a b c d,(mgO m a b c d).length=43:=fun a b c d=>Eu hm.sm
 have hXg:=Fk hS rfl
 have ob:=fun (m:MgS) a b c d n=>Dx m a b c d n
 simp only[At.bnd] at ob
 have g97:=Au (c:=120) (n:=97) (by decide) Ey
 have g111:=Au (c:=120) (n:=111) (by decide) Fj
 have g99:=Au (c:=120) (n:=99) (by decide) F0
 have g103:=Au (c:=120) (n:=103) (by decide) Gb
 have g110:=Au (c:=120) (n:=110) (by decide) Gx
 have g115:=Au (c:=120) (n:=115) (by decide) Hg
 have g105:=Au (c:=120) (n:=105) (by decide) H0
 have g118:=Au (c:=120) (n:=118) (by decide) Iq
 have g112:=Au (c:=120) (n:=112) (by decide) Jg
 have g120:=B0 (c:=120) (n:=120) rfl Kf
 rw[A7e]
 refine Cy (n:=123) Tryd.func93 rfl Tryd.ntmps93 _ hS (by simp) (.x (.a (.v (.bool true)))) _ ?_
 obtain⟨q,hqe⟩:∃q,q=Do 32 s:=⟨_,rfl⟩
 have hR:∀X w,s.Ok X w→RdG 14 [.x (.a (.v (.int .i64 32)))] (.x (.a (.o 1))) s q.2 [.own 136 (.u32 q.1)] X w:=fun X w h=>by rw[hqe];exact A5m 32 (by decide) h
 rw[←hqe]
 rw[A6w m 2 3 4 5 q.1]
 simp (maxSteps:=10^6) only[g97,g111,g99,g103,g110,g115,g105,g118,g112,g120,push_cast,↓reduceIte,reduceCtorEq,Nat.reduceEqDiff,Nat.reduceLT,Nat.reduceAdd]
 (repeat (refine And.intro (by first|omega|decide) ?_))
 refine Bk rfl Ay8 rfl (Gz (k0:=0) (s:=s) (args:=[.x (.a (.v (.int .i64 32)))]) (by simp (maxSteps:=10^6) only[ob,Ag,push_cast,Nat.reduceLT,Nat.reduceAdd]) rfl (by simp only[push_cast,Nat.reduceAdd]) (by simp only[push_cast,Nat.reduceLT,Nat.reduceAdd]) (fun _ _=>rfl) (Fl hs rfl hXg) hR) (Aa rfl) (fun _=>by simp (maxSteps:=10^6) only[ob,Ag,push_cast,Nat.reduceLT,Nat.reduceAdd]) ?_
 simp (maxSteps:=10^6) only[fl,s41,Bq,↓Ci,undef,push_cast,↓reduceIte,reduceCtorEq,Nat.reduceEqDiff,Nat.reduceLT,Nat.reduceAdd]
 refine Bp [0,1,2,3,4,7] ?_
 simp (maxSteps:=10^6) only[ob,Bq,Ag,↓Ci,push_cast,↓reduceIte,reduceCtorEq,Nat.reduceEqDiff,Nat.reduceLT,Nat.reduceAdd]
set_option maxRecDepth 100000 in
set_option maxHeartbeats 2000000 in
theorem A7p (hs:s.Ok X w) (hm:m.In p):RdM 114 s (B1 114 s m).2 m (B1 114 s m).1 true X w:=fun g g2 γ hS=>by
 obtain⟨f0,f1,f2,f3,f4,f5,f38,f39,f40,f41,f42⟩:=G1 hm.sm 2 3 4 5
 obtain⟨s0,s1,s2,s3,s4,s5,s38,s39,s40,s41,s42⟩:=H5 hm.sm 2 3 4 5
 have ssum:=Iz hm.sm 2 3 4 5
 have fl:∀a b c d,(mgO m a b c d).length=43:=fun a b c d=>Eu hm.sm
 have hXg:=Fk hS rfl
 have ob:=fun (m:MgS) a b c d n=>Dx m a b c d n
 simp only[At.bnd] at ob
 have g97:=Au (c:=114) (n:=97) (by decide) Ey
 have g111:=Au (c:=114) (n:=111) (by decide) Fj
 have g99:=Au (c:=114) (n:=99) (by decide) F0
 have g103:=Au (c:=114) (n:=103) (by decide) Gb
 have g110:=Au (c:=114) (n:=110) (by decide) Gx
 have g115:=Au (c:=114) (n:=115) (by decide) Hg
 have g105:=Au (c:=114) (n:=105) (by decide) H0
 have g118:=Au (c:=114) (n:=118) (by decide) Iq
 have g112:=Au (c:=114) (n:=112) (by decide) Jg
 have g120:=Au (c:=114) (n:=120) (by decide) Kf
 have g114:=B0 (c:=114) (n:=114) rfl Lv
 rw[A7f]
 refine Cy (n:=123) Tryd.func93 rfl Tryd.ntmps93 _ hS (by simp) (.x (.a (.v (.bool true)))) _ ?_
 have hq:=Nj 255 s
 obtain⟨q,hqe⟩:∃q,q=numS 255 s:=⟨_,rfl⟩
 have hR:∀X w,s.Ok X w→RdG 11 [.x (.a (.v (.int .u64 255)))] (.x (.a (.v (vU64 q.1)))) s q.2.2 [] X w:=fun X w h=>by rw[hqe];exact Lz 255 h
 rw[←hqe] at hq ⊢
 have hq:q.1.toNat≤255:=hq
 have hn:n64 q.1=((q.1.toNat:Nat):Int):=rfl
 have hx:-9223372036854775808≤n64 q.1:=by omega
 have hx2:n64 q.1≤9223372036854775807:=by omega
 simp (maxSteps:=10^6) only[g97,g111,g99,g103,g110,g115,g105,g118,g112,g120,g114,push_cast,↓reduceIte,reduceCtorEq,Nat.reduceEqDiff,Nat.reduceLT,Nat.reduceAdd]
 (repeat (refine And.intro (by first|omega|decide) ?_))
 refine Bk rfl Lf rfl (Gz (k0:=0) (s:=s) (args:=[.x (.a (.v (.int .u64 255)))]) (by simp (maxSteps:=10^6) only[ob,Ag,push_cast,Nat.reduceLT,Nat.reduceAdd]) rfl (by simp only[push_cast]) (by simp only[push_cast]) (fun _ _=>rfl) (Fl hs rfl hXg) hR) (Aa rfl) (fun _=>by simp (maxSteps:=10^6) only[ob,Ag,push_cast,Nat.reduceLT,Nat.reduceAdd]) ?_
 simp (maxSteps:=10^6) only[fl,s42,Bq,↓Ci,hx,hx2,undef,push_cast,↓reduceIte,reduceCtorEq,Nat.reduceEqDiff,Nat.reduceLT,Nat.reduceAdd,Int.reduceNeg]
 refine Bp [0,1,2,3,4,5] ?_
 simp (maxSteps:=10^6) only[ob,Bq,Ag,↓Ci,push_cast,↓reduceIte,reduceCtorEq,Nat.reduceEqDiff,Nat.reduceLT,Nat.reduceAdd]
end
end Go.Proofs.YtiaeollemmkclaaDoor
