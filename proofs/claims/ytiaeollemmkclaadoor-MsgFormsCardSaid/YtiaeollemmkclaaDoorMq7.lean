import Derived.Test.YtiaeollemmkclaaDoorMq6
import Derived.Test.YtiaeollemmkclaaDoorMgC
/- Layer 16's document: Decode. -/
namespace Go.Proofs.YtiaeollemmkclaaDoor
open Go.RowKit
set_option linter.unusedSimpArgs false
set_option linter.unusedVariables false
theorem H7 (a b c x:At):(List.map f8 (List.replicate 32 0)++[a,b,c]).set 33 x=List.map f8 (List.replicate 32 0)++[a,x,c]:=rfl
theorem H8 (a b c x:At):(List.map f8 (List.replicate 32 0)++[a,b,c]).set 34 x=List.map f8 (List.replicate 32 0)++[a,b,x]:=rfl
def Ac (K:UInt8):FdR:=⟨K,0,⟨none,0,[]⟩,⟨none,0,[]⟩,List.replicate 32 0,⟨none,0,[]⟩,128,pm1⟩
theorem Bbv:ZOk Tryd.prog 83 (.c (.v (.int .u8 0):: .v (.int .i64 0):: .v (.int .i64 0):: .v (.int .i64 0):: .v (.int .i64 0):: .v (.int .u64 0)::(List.map f8 (List.replicate 32 0)++[.v (.slice none 0 0),.v (.slice none 0 0),.v (.slice none 0 0),.v (.slice none 0 0),.v (.int .i64 0)])))=True:=
 eq_true ⟨.agg ([Value.int .u8 0,.int .i64 0,.int .i64 0,.int .i64 0,.int .i64 0,.int .u64 0]++(List.replicate 32 (Value.int .u8 0)++[Value.slice none 0 0,.slice none 0 0,.slice none 0 0,.slice none 0 0,.int .i64 0])).toArray,by kernel_rfl,fun _=>rfl⟩
theorem Jq:ZOk Tryd.prog 83 (.c (mgA zeroR))=True:=by rw[←B4];exact Bbv
theorem Gi (K:UInt8) (w:World):(Ac K).Ok w:=⟨⟨Nat.le_refl _,RdV.nil_⟩,⟨Nat.le_refl _,RdV.nil_⟩,rfl,⟨Nat.le_refl _,RdV.nil_⟩,by show (-9223372036854775808:Int)≤128∧(128:Int)≤9223372036854775807;decide⟩
theorem H9:(At.v (.int .u8 0)::At.v (.int .u64 0)::At.v (.slice none 0 0)::At.v (.slice none 0 0)::(List.map f8 (List.replicate 32 0)++[At.v (.slice none 0 0),At.v (.int .i64 128),At.v (.int .u64 2305843009213693950)]))=fdA (Ac 0):=rfl
theorem Jr {K:UInt8} {st:Rs} {f:FdR} (h:f.fd=(Bj (Ac K).fd st).1):n64 f.n≤9223372036854775807:=by
 have e:f.n=(Bj (Ac K).fd st).1.n:=congrArg Fd.n h
 have h1:(Bj (Ac K).fd st).1.n≤pm1:=by
  unfold Bj
  repeat (first|exact Aeo _ _|exact (by decide:(0:UInt64)≤pm1)|split)
 have:=UInt64.le_iff_toNat_le.1 h1
 have e2:pm1.toNat=2305843009213693950:=rfl
 unfold n64
 rw[e]
 omega
theorem Bbw {m:MgR} (h:m.sm.length=32):(∀y,(mgA m).set 1 (.v (.int .i64 y))=mgA {m with pl:=y})∧(∀y,(mgA m).set 2 (.v (.int .i64 y))=mgA {m with ot:=y})∧(∀y,(mgA m).set 3 (.v (.int .i64 y))=mgA {m with cl:=y})∧(∀y,(mgA m).set 4 (.v (.int .i64 y))=mgA {m with ge:=y})∧(∀y:UInt64,(mgA m).set 5 (.v (vU64 y))=mgA {m with nu:=y})∧
  (∀y:SlV Int,(mgA m).set 38 (.v y.val)=mgA {m with ids:=y})∧(∀y:SlV UInt64,(mgA m).set 39 (.v y.val)=mgA {m with ns:=y})∧(∀y:SlV Pr,(mgA m).set 40 (.v y.val)=mgA {m with ps:=y})∧(∀y:SlV UInt32,(mgA m).set 41 (.v y.val)=mgA {m with xs:=y})∧(∀y,(mgA m).set 42 (.v (.int .i64 y))=mgA {m with re:=y}):=by
 have:=fun y=>Hi (.v (vU8 m.k)) (.v (.int .i64 m.pl)) (.v (.int .i64 m.ot)) (.v (.int .i64 m.cl)) (.v (.int .i64 m.ge)) (.v (vU64 m.nu)) m.sm (.v m.ids.val) (.v m.ns.val) (.v m.ps.val) (.v m.xs.val) (.v (.int .i64 m.re)) y h
 exact⟨fun y=>(this _).2.1,fun y=>(this _).2.2.1,fun y=>(this _).2.2.2.1,fun y=>(this _).2.2.2.2.1,fun y=>(this _).2.2.2.2.2.1,fun y=>(this _).2.2.2.2.2.2.1,fun y=>(this _).2.2.2.2.2.2.2.1,fun y=>(this _).2.2.2.2.2.2.2.2.1,fun y=>(this _).2.2.2.2.2.2.2.2.2.1,fun y=>(this _).2.2.2.2.2.2.2.2.2.2⟩
theorem Bbx {m:MgR} (h:m.sm.length=32) (s:List UInt8):List.take 6 (mgA m)++(List.map f8 s++List.drop 38 (mgA m))=mgA {m with sm:=s}:=by
 unfold mgA mgL
 have e:(m.sm.map f8).length=32:=by rw[List.length_map,h]
 show _++(_++List.drop 32 (m.sm.map f8++_))=_
 rw[List.drop_left' e]
 rfl
section
variable {P:Program} {w0:World} {ow:Nat→Prop} {n:Nat} {s:S} {e:TypeId} {c:Cont} {vs:List Value} {l:List Fct}
theorem Bby {a:Act} {w:World} {j k m n':Nat} (hj:s.hp[j]?=some (.onn e m c)) (hv:∀γ,c.vals γ=vs) (hn:vs.length=n'*m) (hk:s.hp[k]?=some (.abs (fctRep l))) (hjk:j≠k) (hf:Fits w0 ow n s a w):
  ∃A cap,Fits w0 ow n (M1 j k (.slice A n' cap) (l++[⟨.slice A n' cap,n',vs⟩]) s) a w:=by
 obtain⟨γ,hf⟩:=hf
 obtain⟨A,cap,h1,_,h4⟩:=A96 hf.sat hj (hv γ) hn
 have hT:=hf.sat.sub h1
 obtain⟨γ',eB,eS,hS'⟩:=hT.absorb (j:=j) (r:=.onn e m (c.sub j _)) (by rw[List.getElem?_map,hj];rfl) (fun b=>rfl) (by rw[List.getElem?_map,hk];rfl) hjk h4
 refine⟨A,cap,γ',hS',hf.defers,hf.size,fun t sv ht=>?_⟩
 obtain⟨x,hx,rfl⟩:=Vq ht
 rw[Aaz eB eS,Sv.sub_val h1]
 exact hf.at_ t x hx
theorem Aer {ι:Type} {I:ι→S} {Inv:ι→Prop} {μ:ι→Nat} {i:ι} {K:Exit→S→Prop} (j k n':Nat) {m:Nat} (hj:s.hp[j]?=some (.onn e m c)) (hv:∀γ,c.vals γ=vs) (hn:vs.length=n'*m) (hk:s.hp[k]?=some (.abs (fctRep l))) (hjk:j≠k)
  (h:∀A cap,F5 w0 ow n I Inv μ i K .normal (M1 j k (.slice A n' cap) (l++[⟨.slice A n' cap,n',vs⟩]) s)):F5 w0 ow n I Inv μ i K .normal s:=fun a w hf=>by
 obtain⟨A,cap,h3⟩:=Bby hj hv hn hk hjk hf
 exact h A cap a w h3
end
def mgJ (m:MgR) (a b:At):List At:=mgL (.v (vU8 m.k)) (.v (.int .i64 m.pl)) (.v (.int .i64 m.ot)) (.v (.int .i64 m.cl)) (.v (.int .i64 m.ge)) (.v (vU64 m.nu)) m.sm a (.v m.ns.val) b (.v m.xs.val) (.v (.int .i64 m.re))
theorem Aes (m:MgR):mgJ m (.v m.ids.val) (.v m.ps.val)=mgA m:=rfl
theorem Xt {m:MgR} (h:m.sm.length=32) (a b:At):(mgJ m a b).length=43:=O8 h
theorem Xu {m:MgR} (h:m.sm.length=32) (a b:At):(∀x,(mgJ m a b).getD 38 x=a)∧(∀x,(mgJ m a b).getD 40 x=b):=⟨(Ss h).2.2.2.2.2.2.1,(Ss h).2.2.2.2.2.2.2.2.1⟩
theorem Xv {m:MgR} (h:m.sm.length=32) (a b:At):(∀y,(mgJ m a b).set 38 y=mgJ m y b)∧(∀y,(mgJ m a b).set 40 y=mgJ m a y):=by
 have:=fun y=>Hi (.v (vU8 m.k)) (.v (.int .i64 m.pl)) (.v (.int .i64 m.ot)) (.v (.int .i64 m.cl)) (.v (.int .i64 m.ge)) (.v (vU64 m.nu)) m.sm a (.v m.ns.val) b (.v m.xs.val) (.v (.int .i64 m.re)) y h
 exact⟨fun y=>(this y).2.2.2.2.2.2.1,fun y=>(this y).2.2.2.2.2.2.2.2.1⟩
theorem Xw {m:MgR} (h:m.sm.length=32) (a b:At):(mgJ m a b)[38]?=some a∧(mgJ m a b)[40]?=some b:=by
 unfold mgJ mgL
 simp [h]
theorem Aet {q:At→Prop} (h:∀v:Value,v.oneCell'=true→scalar v→q (.v v)) (m:MgR) (a b:At):(∀x∈mgJ m a b,q x)=(q a∧q b):=propext ⟨fun e=>⟨e _ Jk.1,e _ Jk.2.2.1⟩,fun⟨e1,e2⟩=>St (fun _=>h _ rfl trivial) (h _ rfl trivial) (h _ rfl trivial) (h _ rfl trivial) (h _ rfl trivial) (h _ rfl trivial) (h _ rfl trivial) e1 (h _ rfl trivial) e2 (h _ rfl trivial) (h _ rfl trivial)⟩
theorem Aeu (m:MgR) (a b:At) (hp:List Res):(∀x∈mgJ m a b,x.one hp)=(a.one hp∧b.one hp):=Aet (fun v h _=>h) m a b
theorem Tu (m:MgR) (a b:At) (n:Nat):(∀x∈mgJ m a b,x.bnd n)=(a.bnd n∧b.bnd n):=Aet (fun v _ _=>trivial) m a b
theorem Aev (m:MgR) (a b:At) (ρ:List Nat):(mgJ m a b).map (At.ren ρ)=mgJ m (a.ren ρ) (b.ren ρ):=Wc ..
theorem Js (m:MgR) (a b:At) (ρ:List Nat):Cont.ren ρ (.c (mgJ m a b))=.c (mgJ m (a.ren ρ) (b.ren ρ)):=by
 show Cont.c _=_
 rw[Aev]
theorem Xx (m:MgR) (a b:At) (j:Nat) (v:Value):(mgJ m a b).map (At.sub j v)=mgJ m (a.sub j v) (b.sub j v):=by
 unfold mgJ mgL
 rw[List.map_append,List.map_append,List.map_map]
 rfl
def rgo (k:UInt8) (t:List UInt8) (i:Nat):MgS×Rs:=G2 ((Aj k).take i) {Bt with k:=k} (t,false)
theorem Aew:∀(f:List UInt8) (c:UInt8) (m:MgS) (st:Rs),G2 (f++[c]) m st=Cu c (G2 f m st).2 (G2 f m st).1
 |[],c,m,st=>rfl
 |d::f,c,m,st=>Aew f c _ _
theorem Bbz (k:UInt8) (t:List UInt8) {i:Nat} (h:i < (Aj k).length):rgo k t (i+1)=Cu (ix (Aj k) i) (rgo k t i).2 (rgo k t i).1:=by
 unfold rgo
 rw[Nc _ _ h,Aew]
def I2 (q:Option MgS):Int:=match q with
 |none=>3
 |some _=>0
attribute [local irreducible] Af Ad Av Bh Bf A6 Aw A9
attribute [local irreducible] mgA mgJ fdA Ah rgo Cu Cc Cr I2
section
set_option maxRecDepth 100000 in
set_option maxHeartbeats 8000000 in
theorem Bb0 (k:UInt8) (t:List UInt8) (A:Option Addr) (cp:Nat) (w:World) (l:List UInt8) (hlk:l=k::t) (hl:l.length≤100000) (hcp:l.length≤cp) (hR:RdV w w.heap.size A (l.map vU8)):
  Calls Tryd.prog 42 (List.map (Sv.val []) [.x (.a (.v (.slice A l.length cp)))]).toArray w fun e w'=>∃(x:MgR×List Fct) (γ1:List Nm),(x.1.mg=(E0 l).getD Bt∧MOk x.2 x.1)∧e=.returned ((Sv.t [.g (mgA x.1),.a (.v (.int .i64 (I2 (E0 l))))]).val γ1)∧Sat w No γ1 [.abs (fctRep x.2)] w':=by
 obtain⟨D,hD⟩:∃D,D=E0 l:=⟨_,rfl⟩
 rw[←hD]
 have zb:=fun (m:MgR) n=>Co m n
 have gb:=fun (f:FdR) n=>Ix f n
 simp only[At.bnd] at zb gb
 refine J3 (n:=184) Tryd.func42 rfl Tryd.ntmps42 [.x (.a (.v (.slice A l.length cp)))] (Sat.init w No) (by simp) (fun sv hp=>∃(m:MgR) (Fs:List Fct),(m.mg=D.getD Bt∧MOk Fs m)∧Ka (.t [.g (mgA m),.a (.v (.int .i64 (I2 D)))]) [.abs (fctRep Fs)] sv hp) (fun γ sv hp' w' hS ⟨m,Fs,h1,ρ,h3,h4,h5,h6⟩=>?_) ?_
 ·obtain⟨hS2,hρ⟩:=hS.sel h4 h5 h6.2
  refine⟨(m,Fs),_,h1,?_,hS2⟩
  have e:sv=(Sv.t [.g (mgA m),.a (.v (.int .i64 (I2 D)))]).ren ρ:=by
   have:=h3.1
   simp only[Fr.get,if_true,Option.some.injEq] at this
   exact this
  have hlen:ρ.length=1:=(I9 h4).1
  rw[e,←Sv.re hρ (x:=.t [.g (mgA m),.a (.v (.int .i64 (I2 D)))]) (by rw[hlen];simp (maxSteps:=10^6) only[zb,push_cast])]
 have hll:l.length=t.length+1:=by rw[hlk];rfl
 have hRt:RdV w w.heap.size (Ch A 1 cp) (t.map vU8):=by
  have:=hR.drops 1 cp hcp
  rw[hlk] at this
  exact this
 have F:=FM.of hR
 have hA:=F.some_ (by omega)
 have c0:=F.cell 0 (by omega)
 have o0:=F.ok 0 (by omega)
 rw[show ix l 0=k by rw[hlk];rfl] at c0
 rw[Cg] at c0 o0
 have n0:¬((l.length:Int)=0):=by omega
 have n1:(0:Int) < (l.length:Int):=by omega
 have n2:(1:Int)≤(l.length:Int):=by omega
 have n3:(l.length:Int)≤(cp:Int):=by omega
 have n4:l.length - 1=t.length:=by omega
 have zs:=Adk k
 obtain⟨z0,_⟩:=Dw (m:={zeroR with k:=k}) rfl
 obtain⟨mz,hmz⟩:∃mz:MgR,mz={zeroR with k:=k}:=⟨_,rfl⟩
 have mzl:(mgA mz).length=43:=by rw[hmz];exact Cj rfl
 have mzk:mz.k=k:=by rw[hmz]
 rw[←hmz] at zs z0
 simp (maxSteps:=10^6) only[zb,Aq,Jq,B4,B5,n0,n1,hA,c0,o0,zs,z0,mzl,mzk,Cg,undef,push_cast,↓reduceIte,reduceCtorEq,Nat.reduceEqDiff,Nat.reduceLT,Nat.reduceAdd,Int.reduceLE]
 refine⟨of_eq_true (C1 _ _),?_⟩
 (repeat (refine And.intro (by first|omega|decide) ?_))
 refine A8 rfl Lj rfl (L4 k) (Aa rfl) ?_
 simp (maxSteps:=10^6) only[n2,n3,n4,push_cast,↓Int.toNat_natCast,↓reduceIte,reduceCtorEq,Nat.reduceLT,Nat.reduceAdd,Int.reduceLE,Int.reduceToNat]
 (repeat (refine And.intro (by first|omega|decide) ?_))
 refine Aa3 (by simp (maxSteps:=10^6) only[zb,push_cast,Nat.reduceLT,Nat.reduceAdd]) ?_
 simp (maxSteps:=10^6) only[push_cast]
 have hlt0:t.length≤100000:=by omega
 have hct:t.length≤cp - 1:=by omega
 refine Bu (ι:=Nat×MgR×Plc×List Fct) (fun x=>⟨[(0,.x (.a (.v (.slice A l.length cp)))),(2,.x (.a (.p 0 0))),(4,.x (.a (.p 1 0))),(5,.x (.a (.v (.string (Ah k))))),(7,.x (.a (.v (.slice (Ch A 1 cp) t.length (cp - 1))))),(6,.x (.a (.v (.int .i64 (pI x.2.2.1))))),(8,.x (.a (.v (.int .i64 (x.1:Nat)))))],[Res.blk 83 (.c (mgA zeroR)),.blk 83 (.c (mgA x.2.1)),.abs (fctRep x.2.2.2)]⟩)
  (fun x=>x.1≤(Ah k).size∧MOk x.2.2.2 x.2.1∧pOk t x.2.2.1∧rgo k t x.1=(x.2.1.mg,pS t x.2.2.1)∧(105∈(Aj k).drop x.1→x.2.1.ids=⟨none,0,[]⟩)∧(112∈(Aj k).drop x.1→x.2.1.ps=⟨none,0,[]⟩)) (fun x=>(Ah k).size - x.1) (0,mz,some 0,[]) [0,1,2] ⟨Nat.zero_le _,by rw[hmz];exact⟨rfl,.inl rfl,.inl rfl,.inl rfl,.inl rfl,⟨rfl,Nat.zero_le _,Nat.zero_le _,Nat.zero_le _,Nat.zero_le _⟩⟩,Nat.zero_le _,by rw[hmz];unfold rgo;rfl,fun _=>by rw[hmz];rfl,fun _=>by rw[hmz];rfl⟩ ?_ ?_
 ·simp (maxSteps:=10^6) only[zb,↓Ak,show pI (some 0)=0 from rfl,push_cast,↓Int.cast_ofNat_Int,Int.cast_ofNat_Int,↓reduceIte,reduceCtorEq,Nat.reduceEqDiff,Nat.reduceLT,Nat.reduceAdd]
  done
 rintro⟨i,m,p,Fs⟩ ⟨hi,hm,hp,hg,hn105,hn112⟩
 dsimp only at hi hm hp hg hn105 hn112
 have ml:=Cj hm.s
 have sz6:=Tj k
 by_cases hlt:(i:Int) < ((Ah k).size:Int)
 ·have hil:i < (Ah k).size:=by omega
  have hil2:i < (Aj k).length:=by rw[←Ji];exact hil
  have i0:(0:Int)≤(i:Int):=by omega
  have hnx:=Bbz k t hil2
  rw[hg] at hnx
  have hdr:=Sx hil
  have hc:isF (ix (Aj k) i):=(Nr k).2 _ (Lq hil2)
  have hsi:=Xj k i
  obtain⟨q1,q2,q3,q4,q5,q38,q39,q40,q41,q42⟩:=Bbw hm.s
  have qs:=Bbx hm.s
  have dl:∀{x:UInt8},x∈(Aj k).drop (i+1)→x∈(Aj k).drop i:=fun h=>by rw[hdr];exact List.mem_cons_of_mem _ h
  have nd:ix (Aj k) i∉(Aj k).drop (i+1):=by
   have:=(List.drop_sublist i (Aj k)).nodup (Nr k).1
   rw[hdr] at this
   exact (List.nodup_cons.1 this).1
  generalize ix (Aj k) i=c at*
  rcases hc with rfl|rfl|rfl|rfl|rfl|rfl|rfl|rfl|rfl|rfl|rfl
  ·have al:=Cl (f:=Ac 0) rfl
   have ao:=fun hp=>Cs (Ac 0) hp
   have e99:((97:UInt8)=99)=False:=eq_false (by decide)
   have e103:((97:UInt8)=103)=False:=eq_false (by decide)
   have e105:((97:UInt8)=105)=False:=eq_false (by decide)
   have e110:((97:UInt8)=110)=False:=eq_false (by decide)
   have e111:((97:UInt8)=111)=False:=eq_false (by decide)
   have e112:((97:UInt8)=112)=False:=eq_false (by decide)
   have e114:((97:UInt8)=114)=False:=eq_false (by decide)
   have e115:((97:UInt8)=115)=False:=eq_false (by decide)
   have e118:((97:UInt8)=118)=False:=eq_false (by decide)
   have e120:((97:UInt8)=120)=False:=eq_false (by decide)
   simp (maxSteps:=10^6) only[hlt,hsi,i0,zb,gb,Aq,Br,H7,H8,H9,al,e105,e112,e115,e118,e120,undef,push_cast,↓Int.toNat_natCast,↓reduceIte,reduceCtorEq,Nat.reduceEqDiff,Nat.reduceLT,Nat.reduceAdd]
   refine⟨of_eq_true (Cs _ _),?_⟩
   (repeat (refine And.intro (by first|omega|decide) ?_))
   refine Gg (ι:=FdR×List Fct) (fun x=>x.1.fd=(Bj (Ac 0).fd (pS t p)).1∧XOk x.2 x.1) (fun x=>.t [.g (fdA x.1),.a (.v (.int .i64 (pI (Az t (Ac 0).fd p))))]) (fun x=>[Res.blk 83 (.c (mgA zeroR)),.blk 83 (.c (mgA m)),.abs (fctRep Fs),.blk 32 (.c (fdA (Ac 0))),.abs (fctRep x.2)]) rfl F7 rfl (Jo t _ (cp - 1) p (Ac 0) (by simp (maxSteps:=10^6) only[zb,gb,push_cast,Nat.reduceAdd]) hp hlt0 hct hRt (Gi _ _) (by decide)) (Aa rfl) (by simp (maxSteps:=10^6) only[zb,gb,push_cast,Nat.reduceLT,Nat.reduceAdd]) ?_
   rintro⟨fx,Gs⟩ ⟨hfx,hX⟩
   dsimp only at hfx hX
   have xl:=Cl hX.s
   have q39':(mgA m).set 39 (.v fx.l.val)=mgA {m with ns:=⟨fx.l.A,fx.l.c,fx.l.l⟩}:=q39 ⟨fx.l.A,fx.l.c,fx.l.l⟩
   have q41':(mgA m).set 41 (.v fx.x.val)=mgA {m with xs:=⟨fx.x.A,fx.x.c,fx.x.l⟩}:=q41 ⟨fx.x.A,fx.x.c,fx.x.l⟩
   have hx0:0≤n64 fx.n:=Int.natCast_nonneg _
   have hx1:n64 fx.n≤9223372036854775807:=Jr hfx
   obtain⟨f0,f1,f2,f3,f36,f37,f38⟩:=Ez hX.s
   have fss:=Iw hX.s
   simp (maxSteps:=10^6) only[hlt,hsi,i0,zb,gb,Aq,Br,xl,f1,q1,ml,undef,push_cast,↓Int.toNat_natCast,↓reduceIte,reduceCtorEq,Nat.reduceEqDiff,Nat.reduceLT,Nat.reduceAdd,Int.reduceNeg]
   refine⟨of_eq_true (Cs _ _),?_⟩
   (repeat (refine And.intro (by first|omega|decide) ?_))
   refine Jp 2 4 rfl rfl (by simp (maxSteps:=10^6) only[zb,gb,push_cast,Nat.reduceLT,Nat.reduceAdd]) ?_
   simp (maxSteps:=10^6) only[push_cast]
   have hQ:=Hk t (Ac 0).fd p hp
   have hpk:=Hl t (Ac 0).fd p hp
   have hmo:=hm.more (Gs:=Fs++Gs) fun f hf=>List.mem_append_left _ hf
   obtain⟨m',hm'⟩:∃m':MgR,m'={m with pl:=n64 fx.n}:=⟨_,rfl⟩
   have hinv:MOk (Fs++Gs) m'∧Cu 97 (pS t p) m.mg=(m'.mg,pS t (Az t (Ac 0).fd p))∧m'.ids=m.ids∧m'.ps=m.ps:=by
    rw[hm']
    refine⟨⟨hmo.s,hmo.ids,hmo.ns,hmo.ps,hmo.xs,⟨hmo.few.sm,hmo.few.ids,hmo.few.ns,hmo.few.ps,hmo.few.xs⟩⟩,?_,rfl,rfl⟩
    rw[←hQ,show fx.n=(Bj (Ac 0).fd (pS t p)).1.n from congrArg Fd.n hfx]
    unfold Cu
    rfl
   refine Bd (i+1,m',Az t (Ac 0).fd p,Fs++Gs) [0,1,6] ⟨by show i+1≤_;omega,hinv.1,hpk,hnx.trans hinv.2.1,fun h=>hinv.2.2.1.trans (hn105 (dl h)),fun h=>hinv.2.2.2.trans (hn112 (dl h))⟩ (by show (Ah k).size - (i+1) < (Ah k).size - i;omega) ?_
   simp (maxSteps:=10^6) only[hm',zb,↓Ak,push_cast,↓reduceIte,reduceCtorEq,Nat.reduceEqDiff,Nat.reduceLT,Nat.reduceAdd]
   done
  ·have al:=Cl (f:=Ac 0) rfl
   have ao:=fun hp=>Cs (Ac 0) hp
   have e97:((111:UInt8)=97)=False:=eq_false (by decide)
   have e99:((111:UInt8)=99)=False:=eq_false (by decide)
   have e103:((111:UInt8)=103)=False:=eq_false (by decide)
   have e105:((111:UInt8)=105)=False:=eq_false (by decide)
   have e110:((111:UInt8)=110)=False:=eq_false (by decide)
   have e112:((111:UInt8)=112)=False:=eq_false (by decide)
   have e114:((111:UInt8)=114)=False:=eq_false (by decide)
   have e115:((111:UInt8)=115)=False:=eq_false (by decide)
   have e118:((111:UInt8)=118)=False:=eq_false (by decide)
   have e120:((111:UInt8)=120)=False:=eq_false (by decide)
   simp (maxSteps:=10^6) only[hlt,hsi,i0,zb,gb,Aq,Br,H7,H8,H9,al,e105,e112,e115,e118,e120,undef,push_cast,↓Int.toNat_natCast,↓reduceIte,reduceCtorEq,Nat.reduceEqDiff,Nat.reduceLT,Nat.reduceAdd]
   refine⟨of_eq_true (Cs _ _),?_⟩
   (repeat (refine And.intro (by first|omega|decide) ?_))
   refine Gg (ι:=FdR×List Fct) (fun x=>x.1.fd=(Bj (Ac 0).fd (pS t p)).1∧XOk x.2 x.1) (fun x=>.t [.g (fdA x.1),.a (.v (.int .i64 (pI (Az t (Ac 0).fd p))))]) (fun x=>[Res.blk 83 (.c (mgA zeroR)),.blk 83 (.c (mgA m)),.abs (fctRep Fs),.blk 32 (.c (fdA (Ac 0))),.abs (fctRep x.2)]) rfl F7 rfl (Jo t _ (cp - 1) p (Ac 0) (by simp (maxSteps:=10^6) only[zb,gb,push_cast,Nat.reduceAdd]) hp hlt0 hct hRt (Gi _ _) (by decide)) (Aa rfl) (by simp (maxSteps:=10^6) only[zb,gb,push_cast,Nat.reduceLT,Nat.reduceAdd]) ?_
   rintro⟨fx,Gs⟩ ⟨hfx,hX⟩
   dsimp only at hfx hX
   have xl:=Cl hX.s
   have q39':(mgA m).set 39 (.v fx.l.val)=mgA {m with ns:=⟨fx.l.A,fx.l.c,fx.l.l⟩}:=q39 ⟨fx.l.A,fx.l.c,fx.l.l⟩
   have q41':(mgA m).set 41 (.v fx.x.val)=mgA {m with xs:=⟨fx.x.A,fx.x.c,fx.x.l⟩}:=q41 ⟨fx.x.A,fx.x.c,fx.x.l⟩
   have hx0:0≤n64 fx.n:=Int.natCast_nonneg _
   have hx1:n64 fx.n≤9223372036854775807:=Jr hfx
   obtain⟨f0,f1,f2,f3,f36,f37,f38⟩:=Ez hX.s
   have fss:=Iw hX.s
   simp (maxSteps:=10^6) only[hlt,hsi,i0,zb,gb,Aq,Br,xl,f1,q2,ml,e97,undef,push_cast,↓Int.toNat_natCast,↓reduceIte,reduceCtorEq,Nat.reduceEqDiff,Nat.reduceLT,Nat.reduceAdd,Int.reduceNeg]
   refine⟨of_eq_true (Cs _ _),?_⟩
   (repeat (refine And.intro (by first|omega|decide) ?_))
   refine Jp 2 4 rfl rfl (by simp (maxSteps:=10^6) only[zb,gb,push_cast,Nat.reduceLT,Nat.reduceAdd]) ?_
   simp (maxSteps:=10^6) only[push_cast]
   have hQ:=Hk t (Ac 0).fd p hp
   have hpk:=Hl t (Ac 0).fd p hp
   have hmo:=hm.more (Gs:=Fs++Gs) fun f hf=>List.mem_append_left _ hf
   obtain⟨m',hm'⟩:∃m':MgR,m'={m with ot:=n64 fx.n}:=⟨_,rfl⟩
   have hinv:MOk (Fs++Gs) m'∧Cu 111 (pS t p) m.mg=(m'.mg,pS t (Az t (Ac 0).fd p))∧m'.ids=m.ids∧m'.ps=m.ps:=by
    rw[hm']
    refine⟨⟨hmo.s,hmo.ids,hmo.ns,hmo.ps,hmo.xs,⟨hmo.few.sm,hmo.few.ids,hmo.few.ns,hmo.few.ps,hmo.few.xs⟩⟩,?_,rfl,rfl⟩
    rw[←hQ,show fx.n=(Bj (Ac 0).fd (pS t p)).1.n from congrArg Fd.n hfx]
    unfold Cu
    rfl
   refine Bd (i+1,m',Az t (Ac 0).fd p,Fs++Gs) [0,1,6] ⟨by show i+1≤_;omega,hinv.1,hpk,hnx.trans hinv.2.1,fun h=>hinv.2.2.1.trans (hn105 (dl h)),fun h=>hinv.2.2.2.trans (hn112 (dl h))⟩ (by show (Ah k).size - (i+1) < (Ah k).size - i;omega) ?_
   simp (maxSteps:=10^6) only[hm',zb,↓Ak,push_cast,↓reduceIte,reduceCtorEq,Nat.reduceEqDiff,Nat.reduceLT,Nat.reduceAdd]
   done
  ·have al:=Cl (f:=Ac 0) rfl
   have ao:=fun hp=>Cs (Ac 0) hp
   have e97:((99:UInt8)=97)=False:=eq_false (by decide)
   have e103:((99:UInt8)=103)=False:=eq_false (by decide)
   have e105:((99:UInt8)=105)=False:=eq_false (by decide)
   have e110:((99:UInt8)=110)=False:=eq_false (by decide)
   have e111:((99:UInt8)=111)=False:=eq_false (by decide)
   have e112:((99:UInt8)=112)=False:=eq_false (by decide)
   have e114:((99:UInt8)=114)=False:=eq_false (by decide)
   have e115:((99:UInt8)=115)=False:=eq_false (by decide)
   have e118:((99:UInt8)=118)=False:=eq_false (by decide)
   have e120:((99:UInt8)=120)=False:=eq_false (by decide)
   simp (maxSteps:=10^6) only[hlt,hsi,i0,zb,gb,Aq,Br,H7,H8,H9,al,e105,e112,e115,e118,e120,undef,push_cast,↓Int.toNat_natCast,↓reduceIte,reduceCtorEq,Nat.reduceEqDiff,Nat.reduceLT,Nat.reduceAdd]
   refine⟨of_eq_true (Cs _ _),?_⟩
   (repeat (refine And.intro (by first|omega|decide) ?_))
   refine Gg (ι:=FdR×List Fct) (fun x=>x.1.fd=(Bj (Ac 0).fd (pS t p)).1∧XOk x.2 x.1) (fun x=>.t [.g (fdA x.1),.a (.v (.int .i64 (pI (Az t (Ac 0).fd p))))]) (fun x=>[Res.blk 83 (.c (mgA zeroR)),.blk 83 (.c (mgA m)),.abs (fctRep Fs),.blk 32 (.c (fdA (Ac 0))),.abs (fctRep x.2)]) rfl F7 rfl (Jo t _ (cp - 1) p (Ac 0) (by simp (maxSteps:=10^6) only[zb,gb,push_cast,Nat.reduceAdd]) hp hlt0 hct hRt (Gi _ _) (by decide)) (Aa rfl) (by simp (maxSteps:=10^6) only[zb,gb,push_cast,Nat.reduceLT,Nat.reduceAdd]) ?_
   rintro⟨fx,Gs⟩ ⟨hfx,hX⟩
   dsimp only at hfx hX
   have xl:=Cl hX.s
   have q39':(mgA m).set 39 (.v fx.l.val)=mgA {m with ns:=⟨fx.l.A,fx.l.c,fx.l.l⟩}:=q39 ⟨fx.l.A,fx.l.c,fx.l.l⟩
   have q41':(mgA m).set 41 (.v fx.x.val)=mgA {m with xs:=⟨fx.x.A,fx.x.c,fx.x.l⟩}:=q41 ⟨fx.x.A,fx.x.c,fx.x.l⟩
   have hx0:0≤n64 fx.n:=Int.natCast_nonneg _
   have hx1:n64 fx.n≤9223372036854775807:=Jr hfx
   obtain⟨f0,f1,f2,f3,f36,f37,f38⟩:=Ez hX.s
   have fss:=Iw hX.s
   simp (maxSteps:=10^6) only[hlt,hsi,i0,zb,gb,Aq,Br,xl,f1,q3,ml,e97,e111,undef,push_cast,↓Int.toNat_natCast,↓reduceIte,reduceCtorEq,Nat.reduceEqDiff,Nat.reduceLT,Nat.reduceAdd,Int.reduceNeg]
   refine⟨of_eq_true (Cs _ _),?_⟩
   (repeat (refine And.intro (by first|omega|decide) ?_))
   refine Jp 2 4 rfl rfl (by simp (maxSteps:=10^6) only[zb,gb,push_cast,Nat.reduceLT,Nat.reduceAdd]) ?_
   simp (maxSteps:=10^6) only[push_cast]
   have hQ:=Hk t (Ac 0).fd p hp
   have hpk:=Hl t (Ac 0).fd p hp
   have hmo:=hm.more (Gs:=Fs++Gs) fun f hf=>List.mem_append_left _ hf
   obtain⟨m',hm'⟩:∃m':MgR,m'={m with cl:=n64 fx.n}:=⟨_,rfl⟩
   have hinv:MOk (Fs++Gs) m'∧Cu 99 (pS t p) m.mg=(m'.mg,pS t (Az t (Ac 0).fd p))∧m'.ids=m.ids∧m'.ps=m.ps:=by
    rw[hm']
    refine⟨⟨hmo.s,hmo.ids,hmo.ns,hmo.ps,hmo.xs,⟨hmo.few.sm,hmo.few.ids,hmo.few.ns,hmo.few.ps,hmo.few.xs⟩⟩,?_,rfl,rfl⟩
    rw[←hQ,show fx.n=(Bj (Ac 0).fd (pS t p)).1.n from congrArg Fd.n hfx]
    unfold Cu
    rfl
   refine Bd (i+1,m',Az t (Ac 0).fd p,Fs++Gs) [0,1,6] ⟨by show i+1≤_;omega,hinv.1,hpk,hnx.trans hinv.2.1,fun h=>hinv.2.2.1.trans (hn105 (dl h)),fun h=>hinv.2.2.2.trans (hn112 (dl h))⟩ (by show (Ah k).size - (i+1) < (Ah k).size - i;omega) ?_
   simp (maxSteps:=10^6) only[hm',zb,↓Ak,push_cast,↓reduceIte,reduceCtorEq,Nat.reduceEqDiff,Nat.reduceLT,Nat.reduceAdd]
   done
  ·have al:=Cl (f:=Ac 0) rfl
   have ao:=fun hp=>Cs (Ac 0) hp
   have e97:((103:UInt8)=97)=False:=eq_false (by decide)
   have e99:((103:UInt8)=99)=False:=eq_false (by decide)
   have e105:((103:UInt8)=105)=False:=eq_false (by decide)
   have e110:((103:UInt8)=110)=False:=eq_false (by decide)
   have e111:((103:UInt8)=111)=False:=eq_false (by decide)
   have e112:((103:UInt8)=112)=False:=eq_false (by decide)
   have e114:((103:UInt8)=114)=False:=eq_false (by decide)
   have e115:((103:UInt8)=115)=False:=eq_false (by decide)
   have e118:((103:UInt8)=118)=False:=eq_false (by decide)
   have e120:((103:UInt8)=120)=False:=eq_false (by decide)
   simp (maxSteps:=10^6) only[hlt,hsi,i0,zb,gb,Aq,Br,H7,H8,H9,al,e105,e112,e115,e118,e120,undef,push_cast,↓Int.toNat_natCast,↓reduceIte,reduceCtorEq,Nat.reduceEqDiff,Nat.reduceLT,Nat.reduceAdd]
   refine⟨of_eq_true (Cs _ _),?_⟩
   (repeat (refine And.intro (by first|omega|decide) ?_))
   refine Gg (ι:=FdR×List Fct) (fun x=>x.1.fd=(Bj (Ac 0).fd (pS t p)).1∧XOk x.2 x.1) (fun x=>.t [.g (fdA x.1),.a (.v (.int .i64 (pI (Az t (Ac 0).fd p))))]) (fun x=>[Res.blk 83 (.c (mgA zeroR)),.blk 83 (.c (mgA m)),.abs (fctRep Fs),.blk 32 (.c (fdA (Ac 0))),.abs (fctRep x.2)]) rfl F7 rfl (Jo t _ (cp - 1) p (Ac 0) (by simp (maxSteps:=10^6) only[zb,gb,push_cast,Nat.reduceAdd]) hp hlt0 hct hRt (Gi _ _) (by decide)) (Aa rfl) (by simp (maxSteps:=10^6) only[zb,gb,push_cast,Nat.reduceLT,Nat.reduceAdd]) ?_
   rintro⟨fx,Gs⟩ ⟨hfx,hX⟩
   dsimp only at hfx hX
   have xl:=Cl hX.s
   have q39':(mgA m).set 39 (.v fx.l.val)=mgA {m with ns:=⟨fx.l.A,fx.l.c,fx.l.l⟩}:=q39 ⟨fx.l.A,fx.l.c,fx.l.l⟩
   have q41':(mgA m).set 41 (.v fx.x.val)=mgA {m with xs:=⟨fx.x.A,fx.x.c,fx.x.l⟩}:=q41 ⟨fx.x.A,fx.x.c,fx.x.l⟩
   have hx0:0≤n64 fx.n:=Int.natCast_nonneg _
   have hx1:n64 fx.n≤9223372036854775807:=Jr hfx
   obtain⟨f0,f1,f2,f3,f36,f37,f38⟩:=Ez hX.s
   have fss:=Iw hX.s
   simp (maxSteps:=10^6) only[hlt,hsi,i0,zb,gb,Aq,Br,xl,f1,q4,ml,e97,e99,e111,undef,push_cast,↓Int.toNat_natCast,↓reduceIte,reduceCtorEq,Nat.reduceEqDiff,Nat.reduceLT,Nat.reduceAdd,Int.reduceNeg]
   refine⟨of_eq_true (Cs _ _),?_⟩
   (repeat (refine And.intro (by first|omega|decide) ?_))
   refine Jp 2 4 rfl rfl (by simp (maxSteps:=10^6) only[zb,gb,push_cast,Nat.reduceLT,Nat.reduceAdd]) ?_
   simp (maxSteps:=10^6) only[push_cast]
   have hQ:=Hk t (Ac 0).fd p hp
   have hpk:=Hl t (Ac 0).fd p hp
   have hmo:=hm.more (Gs:=Fs++Gs) fun f hf=>List.mem_append_left _ hf
   obtain⟨m',hm'⟩:∃m':MgR,m'={m with ge:=n64 fx.n}:=⟨_,rfl⟩
   have hinv:MOk (Fs++Gs) m'∧Cu 103 (pS t p) m.mg=(m'.mg,pS t (Az t (Ac 0).fd p))∧m'.ids=m.ids∧m'.ps=m.ps:=by
    rw[hm']
    refine⟨⟨hmo.s,hmo.ids,hmo.ns,hmo.ps,hmo.xs,⟨hmo.few.sm,hmo.few.ids,hmo.few.ns,hmo.few.ps,hmo.few.xs⟩⟩,?_,rfl,rfl⟩
    rw[←hQ,show fx.n=(Bj (Ac 0).fd (pS t p)).1.n from congrArg Fd.n hfx]
    unfold Cu
    rfl
   refine Bd (i+1,m',Az t (Ac 0).fd p,Fs++Gs) [0,1,6] ⟨by show i+1≤_;omega,hinv.1,hpk,hnx.trans hinv.2.1,fun h=>hinv.2.2.1.trans (hn105 (dl h)),fun h=>hinv.2.2.2.trans (hn112 (dl h))⟩ (by show (Ah k).size - (i+1) < (Ah k).size - i;omega) ?_
   simp (maxSteps:=10^6) only[hm',zb,↓Ak,push_cast,↓reduceIte,reduceCtorEq,Nat.reduceEqDiff,Nat.reduceLT,Nat.reduceAdd]
   done
  ·have al:=Cl (f:=Ac 0) rfl
   have ao:=fun hp=>Cs (Ac 0) hp
   have e97:((110:UInt8)=97)=False:=eq_false (by decide)
   have e99:((110:UInt8)=99)=False:=eq_false (by decide)
   have e103:((110:UInt8)=103)=False:=eq_false (by decide)
   have e105:((110:UInt8)=105)=False:=eq_false (by decide)
   have e111:((110:UInt8)=111)=False:=eq_false (by decide)
   have e112:((110:UInt8)=112)=False:=eq_false (by decide)
   have e114:((110:UInt8)=114)=False:=eq_false (by decide)
   have e115:((110:UInt8)=115)=False:=eq_false (by decide)
   have e118:((110:UInt8)=118)=False:=eq_false (by decide)
   have e120:((110:UInt8)=120)=False:=eq_false (by decide)
   simp (maxSteps:=10^6) only[hlt,hsi,i0,zb,gb,Aq,Br,H7,H8,H9,al,e105,e112,e115,e118,e120,undef,push_cast,↓Int.toNat_natCast,↓reduceIte,reduceCtorEq,Nat.reduceEqDiff,Nat.reduceLT,Nat.reduceAdd]
   refine⟨of_eq_true (Cs _ _),?_⟩
   (repeat (refine And.intro (by first|omega|decide) ?_))
   refine Gg (ι:=FdR×List Fct) (fun x=>x.1.fd=(Bj (Ac 0).fd (pS t p)).1∧XOk x.2 x.1) (fun x=>.t [.g (fdA x.1),.a (.v (.int .i64 (pI (Az t (Ac 0).fd p))))]) (fun x=>[Res.blk 83 (.c (mgA zeroR)),.blk 83 (.c (mgA m)),.abs (fctRep Fs),.blk 32 (.c (fdA (Ac 0))),.abs (fctRep x.2)]) rfl F7 rfl (Jo t _ (cp - 1) p (Ac 0) (by simp (maxSteps:=10^6) only[zb,gb,push_cast,Nat.reduceAdd]) hp hlt0 hct hRt (Gi _ _) (by decide)) (Aa rfl) (by simp (maxSteps:=10^6) only[zb,gb,push_cast,Nat.reduceLT,Nat.reduceAdd]) ?_
   rintro⟨fx,Gs⟩ ⟨hfx,hX⟩
   dsimp only at hfx hX
   have xl:=Cl hX.s
   have q39':(mgA m).set 39 (.v fx.l.val)=mgA {m with ns:=⟨fx.l.A,fx.l.c,fx.l.l⟩}:=q39 ⟨fx.l.A,fx.l.c,fx.l.l⟩
   have q41':(mgA m).set 41 (.v fx.x.val)=mgA {m with xs:=⟨fx.x.A,fx.x.c,fx.x.l⟩}:=q41 ⟨fx.x.A,fx.x.c,fx.x.l⟩
   have hx0:0≤n64 fx.n:=Int.natCast_nonneg _
   have hx1:n64 fx.n≤9223372036854775807:=Jr hfx
   obtain⟨f0,f1,f2,f3,f36,f37,f38⟩:=Ez hX.s
   have fss:=Iw hX.s
   simp (maxSteps:=10^6) only[hlt,hsi,i0,zb,gb,Aq,Br,xl,f1,q5,ml,e97,e99,e103,e111,e114,undef,push_cast,↓Int.toNat_natCast,↓reduceIte,reduceCtorEq,Nat.reduceEqDiff,Nat.reduceLT,Nat.reduceAdd,Int.reduceNeg]
   refine⟨of_eq_true (Cs _ _),?_⟩
   (repeat (refine And.intro (by first|omega|decide) ?_))
   refine Jp 2 4 rfl rfl (by simp (maxSteps:=10^6) only[zb,gb,push_cast,Nat.reduceLT,Nat.reduceAdd]) ?_
   simp (maxSteps:=10^6) only[push_cast]
   have hQ:=Hk t (Ac 0).fd p hp
   have hpk:=Hl t (Ac 0).fd p hp
   have hmo:=hm.more (Gs:=Fs++Gs) fun f hf=>List.mem_append_left _ hf
   obtain⟨m',hm'⟩:∃m':MgR,m'={m with nu:=fx.n}:=⟨_,rfl⟩
   have hinv:MOk (Fs++Gs) m'∧Cu 110 (pS t p) m.mg=(m'.mg,pS t (Az t (Ac 0).fd p))∧m'.ids=m.ids∧m'.ps=m.ps:=by
    rw[hm']
    refine⟨⟨hmo.s,hmo.ids,hmo.ns,hmo.ps,hmo.xs,⟨hmo.few.sm,hmo.few.ids,hmo.few.ns,hmo.few.ps,hmo.few.xs⟩⟩,?_,rfl,rfl⟩
    rw[←hQ,show fx.n=(Bj (Ac 0).fd (pS t p)).1.n from congrArg Fd.n hfx]
    unfold Cu
    rfl
   refine Bd (i+1,m',Az t (Ac 0).fd p,Fs++Gs) [0,1,6] ⟨by show i+1≤_;omega,hinv.1,hpk,hnx.trans hinv.2.1,fun h=>hinv.2.2.1.trans (hn105 (dl h)),fun h=>hinv.2.2.2.trans (hn112 (dl h))⟩ (by show (Ah k).size - (i+1) < (Ah k).size - i;omega) ?_
   simp (maxSteps:=10^6) only[hm',zb,↓Ak,push_cast,↓reduceIte,reduceCtorEq,Nat.reduceEqDiff,Nat.reduceLT,Nat.reduceAdd]
   done
  ·have al:=Cl (f:=Ac 0) rfl
   have ao:=fun hp=>Cs (Ac 0) hp
   have e97:((115:UInt8)=97)=False:=eq_false (by decide)
   have e99:((115:UInt8)=99)=False:=eq_false (by decide)
   have e103:((115:UInt8)=103)=False:=eq_false (by decide)
   have e105:((115:UInt8)=105)=False:=eq_false (by decide)
   have e110:((115:UInt8)=110)=False:=eq_false (by decide)
   have e111:((115:UInt8)=111)=False:=eq_false (by decide)
   have e112:((115:UInt8)=112)=False:=eq_false (by decide)
   have e114:((115:UInt8)=114)=False:=eq_false (by decide)
   have e118:((115:UInt8)=118)=False:=eq_false (by decide)
   have e120:((115:UInt8)=120)=False:=eq_false (by decide)
   have hst:(fdA (Ac 0)).set 0 (.v (.int .u8 3))=fdA (Ac 3):=by unfold fdA;rfl
   have al2:=Cl (f:=Ac 3) rfl
   simp (maxSteps:=10^6) only[hlt,hsi,i0,zb,gb,Aq,Br,H7,H8,H9,al,hst,al2,undef,push_cast,↓Int.toNat_natCast,↓reduceIte,reduceCtorEq,Nat.reduceEqDiff,Nat.reduceLT,Nat.reduceAdd]
   refine⟨of_eq_true (Cs _ _),?_⟩
   (repeat (refine And.intro (by first|omega|decide) ?_))
   refine Gg (ι:=FdR×List Fct) (fun x=>x.1.fd=(Bj (Ac 3).fd (pS t p)).1∧XOk x.2 x.1) (fun x=>.t [.g (fdA x.1),.a (.v (.int .i64 (pI (Az t (Ac 3).fd p))))]) (fun x=>[Res.blk 83 (.c (mgA zeroR)),.blk 83 (.c (mgA m)),.abs (fctRep Fs),.blk 32 (.c (fdA (Ac 3))),.abs (fctRep x.2)]) rfl F7 rfl (Jo t _ (cp - 1) p (Ac 3) (by simp (maxSteps:=10^6) only[zb,gb,push_cast,Nat.reduceAdd]) hp hlt0 hct hRt (Gi _ _) (by decide)) (Aa rfl) (by simp (maxSteps:=10^6) only[zb,gb,push_cast,Nat.reduceLT,Nat.reduceAdd]) ?_
   rintro⟨fx,Gs⟩ ⟨hfx,hX⟩
   dsimp only at hfx hX
   have xl:=Cl hX.s
   have q39':(mgA m).set 39 (.v fx.l.val)=mgA {m with ns:=⟨fx.l.A,fx.l.c,fx.l.l⟩}:=q39 ⟨fx.l.A,fx.l.c,fx.l.l⟩
   have q41':(mgA m).set 41 (.v fx.x.val)=mgA {m with xs:=⟨fx.x.A,fx.x.c,fx.x.l⟩}:=q41 ⟨fx.x.A,fx.x.c,fx.x.l⟩
   have hx0:0≤n64 fx.n:=Int.natCast_nonneg _
   have hx1:n64 fx.n≤9223372036854775807:=Jr hfx
   obtain⟨f0,f1,f2,f3,f36,f37,f38⟩:=Ez hX.s
   have fss:=Iw hX.s
   simp (maxSteps:=10^6) only[hlt,hsi,i0,zb,gb,Aq,Br,xl,f1,fss,qs,ml,e97,e99,e103,e110,e111,e114,undef,push_cast,↓Int.toNat_natCast,↓reduceIte,reduceCtorEq,Nat.reduceEqDiff,Nat.reduceLT,Nat.reduceLeDiff,Nat.reduceAdd,Int.reduceNeg]
   refine⟨of_eq_true (Cs _ _),?_⟩
   (repeat (refine And.intro (by first|omega|decide) ?_))
   refine⟨hX.s,?_⟩
   (repeat (refine And.intro (by first|omega|decide) ?_))
   refine Jp 2 4 rfl rfl (by simp (maxSteps:=10^6) only[zb,gb,push_cast,Nat.reduceLT,Nat.reduceAdd]) ?_
   simp (maxSteps:=10^6) only[push_cast]
   have hQ:=Hk t (Ac 3).fd p hp
   have hpk:=Hl t (Ac 3).fd p hp
   have hmo:=hm.more (Gs:=Fs++Gs) fun f hf=>List.mem_append_left _ hf
   obtain⟨m',hm'⟩:∃m':MgR,m'={m with sm:=fx.s}:=⟨_,rfl⟩
   have hinv:MOk (Fs++Gs) m'∧Cu 115 (pS t p) m.mg=(m'.mg,pS t (Az t (Ac 3).fd p))∧m'.ids=m.ids∧m'.ps=m.ps:=by
    rw[hm']
    refine⟨⟨hX.s,hmo.ids,hmo.ns,hmo.ps,hmo.xs,⟨hX.s,hmo.few.ids,hmo.few.ns,hmo.few.ps,hmo.few.xs⟩⟩,?_,rfl,rfl⟩
    rw[←hQ,show fx.s=(Bj (Ac 3).fd (pS t p)).1.s from congrArg Fd.s hfx]
    unfold Cu
    rfl
   refine Bd (i+1,m',Az t (Ac 3).fd p,Fs++Gs) [0,1,6] ⟨by show i+1≤_;omega,hinv.1,hpk,hnx.trans hinv.2.1,fun h=>hinv.2.2.1.trans (hn105 (dl h)),fun h=>hinv.2.2.2.trans (hn112 (dl h))⟩ (by show (Ah k).size - (i+1) < (Ah k).size - i;omega) ?_
   simp (maxSteps:=10^6) only[hm',zb,↓Ak,push_cast,↓reduceIte,reduceCtorEq,Nat.reduceEqDiff,Nat.reduceLT,Nat.reduceAdd]
   done
  ·have al:=Cl (f:=Ac 0) rfl
   have ao:=fun hp=>Cs (Ac 0) hp
   have e97:((105:UInt8)=97)=False:=eq_false (by decide)
   have e99:((105:UInt8)=99)=False:=eq_false (by decide)
   have e103:((105:UInt8)=103)=False:=eq_false (by decide)
   have e110:((105:UInt8)=110)=False:=eq_false (by decide)
   have e111:((105:UInt8)=111)=False:=eq_false (by decide)
   have e112:((105:UInt8)=112)=False:=eq_false (by decide)
   have e114:((105:UInt8)=114)=False:=eq_false (by decide)
   have e115:((105:UInt8)=115)=False:=eq_false (by decide)
   have e118:((105:UInt8)=118)=False:=eq_false (by decide)
   have e120:((105:UInt8)=120)=False:=eq_false (by decide)
   have hst:(fdA (Ac 0)).set 0 (.v (.int .u8 1))=fdA (Ac 1):=by unfold fdA;rfl
   have al2:=Cl (f:=Ac 1) rfl
   simp (maxSteps:=10^6) only[hlt,hsi,i0,zb,gb,Aq,Br,H7,H8,H9,al,hst,al2,e115,undef,push_cast,↓Int.toNat_natCast,↓reduceIte,reduceCtorEq,Nat.reduceEqDiff,Nat.reduceLT,Nat.reduceAdd]
   refine⟨of_eq_true (Cs _ _),?_⟩
   (repeat (refine And.intro (by first|omega|decide) ?_))
   obtain⟨N,hN⟩:∃N,N=tkN t (Ac 1) p:=⟨_,rfl⟩
   have hrd:rdT (Ac 1)=27:=rfl
   have htc:tkC t (Ac 1) p=.u64 N:=by rw[hN];unfold tkC;rfl
   have hQ:=Hk t (Ac 1).fd p hp
   have hpk:=Hl t (Ac 1).fd p hp
   have hfd:=Ts (f:=Ac 1) rfl hp
   rw[←hN] at hfd
   have jb:=fun m a b n=>Tu m a b n
   simp only[At.bnd] at jb
   by_cases hs:(Az t (Ac 1).fd p).isSome
   ·have hta:∀j,tkA t (Ch A 1 cp) (cp - 1) (Ac 1) p j=At.v (.int .u8 1)::At.v (.int .u64 0)::At.o j::At.v (.slice none 0 0)::(List.map f8 (List.replicate 32 0)++[At.v (.slice none 0 0),At.v (.int .i64 0),At.v (.int .u64 0)]):=fun j=>by
     unfold tkA
     rw[if_neg (show ¬(Ac 1).k=0 by decide),if_pos (show (Ac 1).k=1 from rfl),if_pos hs]
     rfl
    refine Bk rfl F7 rfl (Pz t _ (cp - 1) p (Ac 1) (by simp (maxSteps:=10^6) only[zb,gb,push_cast,Nat.reduceAdd]) hp hlt0 hct hRt (Gi _ _)) (Aa rfl) (fun _=>by simp (maxSteps:=10^6) only[zb,gb,push_cast,Nat.reduceLT,Nat.reduceAdd]) ?_
    rw[hta,hrd,htc]
    simp (maxSteps:=10^6) only[hlt,hsi,i0,zb,gb,Aq,Br,e97,e99,e103,e110,e111,e114,e115,e118,e120,undef,push_cast,↓Int.toNat_natCast,↓reduceIte,reduceCtorEq,Nat.reduceEqDiff,Nat.reduceLT,Nat.reduceAdd,Int.reduceNeg,Int.reduceLE]
    (repeat (refine And.intro (by first|omega|decide) ?_))
    have hid:m.ids.val=.slice none 0 0:=by rw[hn105 (by rw[hdr];exact List.mem_cons_self ..)];rfl
    have jl:=fun a b=>Xt hm.s a b
    have jg:=fun a b=>(Xu hm.s a b).1
    have js:=fun a b=>(Xv hm.s a b).1
    rw[←Aes m,hid]
    refine Mz 1 38 83 3 _ (.i64 []) rfl (Xw hm.s _ _).1 rfl trivial (by simp (maxSteps:=10^6) only[zb,gb,jb,push_cast,Nat.reduceLT,Nat.reduceAdd]) ?_
    simp (maxSteps:=10^6) only[js,push_cast,Nat.reduceAdd]
    have nfew:=Tr (many:=128) pm1 (pS t p) (by decide)
    have hNe:(A5 ((128:Nat):Int) pm1 (pS t p)).1=N:=congrArg Fd.l hfd.1
    rw[hNe] at nfew
    refine Bu (ι:=Nat) (fun j=>⟨[(0,.x (.a (.v (.slice A l.length cp)))),(2,.x (.a (.p 0 0))),(4,.x (.a (.p 1 0))),(5,.x (.a (.v (.string (Ah k))))),(7,.x (.a (.v (.slice (Ch A 1 cp) t.length (cp - 1))))),(6,.x (.a (.v (.int .i64 (pI (Az t (Ac 1).fd p)))))),(8,.x (.a (.v (.int .i64 i)))),(10,.x (.a (.p 3 0))),(13,.x (.a (.v (.int .i64 j))))],[Res.blk 83 (.c (mgA zeroR)),.blk 83 (.c (mgJ m (.o 5) (.v m.ps.val))),.abs (fctRep Fs),.blk 32 (.c (At.v (.int .u8 1)::At.v (.int .u64 0)::At.o 4::At.v (.slice none 0 0)::(List.map f8 (List.replicate 32 0)++[At.v (.slice none 0 0),At.v (.int .i64 0),At.v (.int .u64 0)]))),.own 27 (.u64 N),.own 3 (.i64 (Be (N.take j)))]⟩)
     (fun j=>j≤N.length) (fun j=>N.length - j) 0 [0,1,2,5,4,6] (Nat.zero_le _) ?_ ?_
    ·simp (maxSteps:=10^6) only[zb,↓Ak,jb,↓Js,Cq,We,List.take_zero,push_cast,↓Int.cast_ofNat_Int,Int.cast_ofNat_Int,↓reduceIte,reduceCtorEq,Nat.reduceEqDiff,Nat.reduceLT,Nat.reduceAdd]
     trace_state
     done
    intro j hj
    by_cases jlt:(j:Int) < (N.length:Int)
    ·have hjl:j < N.length:=by omega
     have j0:(0:Int)≤(j:Int):=by omega
     have hn:=Ab7 N j hjl
     have hk:=Iu (N.take j)
     rw[List.length_take,Nat.min_eq_left hj] at hk
     have hv:n64 (ix N j)≤9223372036854775807:=by
      have:=UInt64.le_iff_toNat_le.1 (nfew.2 _ (Lq hjl))
      have e2:pm1.toNat=2305843009213693950:=rfl
      unfold n64
      omega
     have hv0:0≤n64 (ix N j):=Int.natCast_nonneg _
     have d1:(j+1)*8≤140737488355328:=by omega
     have d2:j+1≤2 ^ 63 - 1:=by omega
     simp (maxSteps:=10^6) only[jlt,undef,push_cast,↓reduceIte,reduceCtorEq,Nat.reduceEqDiff,Nat.reduceLT,Nat.reduceAdd]
     (repeat (refine And.intro (by first|omega|decide) ?_))
     refine Ps 6 [5] 11 (.rd 0 (.rd 1 (.rd 2 (.rd 3 (.rd 4 (.rd 5 (.rd 6 (.rd 7 (.wr 8 (.wr 9 (.rd 10 .nil))))))))))) ⟨[(0,.x (.a (.v (.slice A l.length cp)))),(2,.x (.a (.p 0 0))),(4,.x (.a (.p 1 0))),(5,.x (.a (.v (.string (Ah k))))),(7,.x (.a (.v (.slice (Ch A 1 cp) t.length (cp - 1))))),(6,.x (.a (.v (.int .i64 (pI (Az t (Ac 1).fd p)))))),(8,.x (.a (.v (.int .i64 i)))),(10,.x (.a (.p 3 0))),(13,.x (.a (.v (.int .i64 j)))),(125,.x (.a (.o 6))),(126,.x (.a (.p 1 38)))],[Res.blk 83 (.c (mgA zeroR)),.blk 83 (.c (mgJ m (.o 5) (.v m.ps.val))),.abs (fctRep Fs),.blk 32 (.c (At.v (.int .u8 1)::At.v (.int .u64 0)::At.o 4::At.v (.slice none 0 0)::(List.map f8 (List.replicate 32 0)++[At.v (.slice none 0 0),At.v (.int .i64 0),At.v (.int .u64 0)]))),.own 27 (.u64 N),.gone,.own 3 (.i64 (Be (N.take j)++[n64 (ix N j)]))]⟩ (by kernel_rfl) (by kernel_rfl) (Nat.le_refl 6) ?_ ?_
     ·simp (maxSteps:=10^6) only[jlt,j0,hk,hv,d1,d2,jl,jg,zb,jb,undef,push_cast,↓Int.toNat_natCast,↓reduceIte,reduceCtorEq,Nat.reduceEqDiff,Nat.reduceLT,Nat.reduceLeDiff,Nat.reduceAdd,Nat.reduceSub,Int.reduceNeg]
      (repeat (refine And.intro (by first|omega|decide) ?_))
      refine Il [0,1,2,3,4,5,7] ?_
      simp (maxSteps:=10^6) only[zb,↓Ak,jb,↓Js,Cq,push_cast,↓reduceIte,reduceCtorEq,Nat.reduceEqDiff,Nat.reduceLT,Nat.reduceAdd]
      done
     ·simp (maxSteps:=10^6) only[jl,js,undef,push_cast,↓reduceIte,reduceCtorEq,Nat.reduceEqDiff,Nat.reduceLT,Nat.reduceAdd,Int.reduceNeg]
      (repeat (refine And.intro (by first|omega|decide) ?_))
      refine Bd (j+1) [0,1,2,3,4,6] (by omega) (by omega) ?_
      simp (maxSteps:=10^6) only[hn,zb,↓Ak,jb,↓Js,Cq,push_cast,↓reduceIte,reduceCtorEq,Nat.reduceEqDiff,Nat.reduceLT,Nat.reduceAdd]
      done
    ·obtain rfl:j=N.length:=by omega
     simp (maxSteps:=10^6) only[jlt,List.take_length,undef,push_cast,↓reduceIte,reduceCtorEq,Nat.reduceEqDiff,Nat.reduceLT,Nat.reduceAdd,Int.reduceNeg]
     (repeat (refine And.intro (by first|omega|decide) ?_))
     refine Sg 5 2 (vs:=(Be N).map (Value.int .i64)) rfl (fun _=>rfl) rfl (by decide) fun A1 cap1 h1 h2=>?_
     rw[List.length_map]
     obtain⟨m',hm'⟩:∃m':MgR,m'={m with ids:=⟨A1,cap1,Be N⟩}:=⟨_,rfl⟩
     have hmj:mgJ m (.v (.slice A1 (Be N).length cap1)) (.v m.ps.val)=mgA m':=by rw[hm'];unfold mgJ mgA;rfl
     have hmo:=hm.more (Gs:=Fs++[⟨.slice A1 (Be N).length cap1,(Be N).length,(Be N).map (Value.int .i64)⟩]) fun f hf=>List.mem_append_left _ hf
     refine Bd (i+1,m',Az t (Ac 1).fd p,Fs++[⟨.slice A1 (Be N).length cap1,(Be N).length,(Be N).map (Value.int .i64)⟩]) [0,1,2] ⟨by show i+1≤_;omega,?_,hpk,?_,fun h=>absurd h nd,fun h=>by rw[hm'];exact hn112 (dl h)⟩ (by show (Ah k).size - (i+1) < (Ah k).size - i;omega) ?_
     ·rw[hm']
      exact⟨hmo.s,.inr (List.mem_append_right _ (List.mem_singleton.2 rfl)),hmo.ns,hmo.ps,hmo.xs,⟨hmo.few.sm,by show (Be N).length≤1000;rw[Iu];omega,hmo.few.ns,hmo.few.ps,hmo.few.xs⟩⟩
     ·refine hnx.trans ?_
      rw[←hQ,hm']
      have e1:m.mg.ids=[]:=by show m.ids.l=[];rw[hn105 (by rw[hdr];exact List.mem_cons_self ..)]
      have e2:(Bj (Ac 1).fd (pS t p)).1.l=N:=congrArg Fd.l hfd.1
      show Cu 105 _ _=(({m.mg with ids:=Be N}:MgS),_)
      rw[←e2]
      unfold Cu
      show (({m.mg with ids:=m.mg.ids++Be (Bj (Ac 1).fd (pS t p)).1.l}:MgS),_)=_
      rw[e1]
      rfl
     ·simp (maxSteps:=10^6) only[P0,Xx,P1,hmj,zb,↓Ak,push_cast,↓reduceIte,reduceCtorEq,Nat.reduceEqDiff,Nat.reduceLT,Nat.reduceAdd]
      done
   ·have hta:∀j,tkA t (Ch A 1 cp) (cp - 1) (Ac 1) p j=At.v (.int .u8 1)::At.v (.int .u64 0)::At.v (.slice none 0 0)::At.v (.slice none 0 0)::(List.map f8 (List.replicate 32 0)++[At.v (.slice none 0 0),At.v (.int .i64 0),At.v (.int .u64 0)]):=fun j=>by
     unfold tkA
     rw[if_neg (show ¬(Ac 1).k=0 by decide),if_pos (show (Ac 1).k=1 from rfl),if_neg hs]
     rfl
    refine Bk rfl F7 rfl (Pz t _ (cp - 1) p (Ac 1) (by simp (maxSteps:=10^6) only[zb,gb,push_cast,Nat.reduceAdd]) hp hlt0 hct hRt (Gi _ _)) (Aa rfl) (fun _=>by simp (maxSteps:=10^6) only[zb,gb,push_cast,Nat.reduceLT,Nat.reduceAdd]) ?_
    rw[hta,hrd,htc]
    simp (maxSteps:=10^6) only[hlt,hsi,i0,zb,gb,Aq,Br,e97,e99,e103,e110,e111,e114,e115,e118,e120,undef,push_cast,↓Int.toNat_natCast,↓reduceIte,reduceCtorEq,Nat.reduceEqDiff,Nat.reduceLT,Nat.reduceAdd,Int.reduceNeg,Int.reduceLE]
    (repeat (refine And.intro (by first|omega|decide) ?_))
    refine Bu (ι:=Nat) (fun j=>⟨[(0,.x (.a (.v (.slice A l.length cp)))),(2,.x (.a (.p 0 0))),(4,.x (.a (.p 1 0))),(5,.x (.a (.v (.string (Ah k))))),(7,.x (.a (.v (.slice (Ch A 1 cp) t.length (cp - 1))))),(6,.x (.a (.v (.int .i64 (pI (Az t (Ac 1).fd p)))))),(8,.x (.a (.v (.int .i64 i)))),(10,.x (.a (.p 3 0))),(13,.x (.a (.v (.int .i64 0))))],[Res.blk 83 (.c (mgA zeroR)),.blk 83 (.c (mgA m)),.abs (fctRep Fs),.blk 32 (.c (At.v (.int .u8 1)::At.v (.int .u64 0)::At.v (.slice none 0 0)::At.v (.slice none 0 0)::(List.map f8 (List.replicate 32 0)++[At.v (.slice none 0 0),At.v (.int .i64 0),At.v (.int .u64 0)])))]⟩)
     (fun j=>True) (fun j=>0) 0 [0,1,2,5] trivial ?_ ?_
    ·simp (maxSteps:=10^6) only[zb,↓Ak,Cq,push_cast,↓reduceIte,reduceCtorEq,Nat.reduceEqDiff,Nat.reduceLT,Nat.reduceAdd]
     done
    intro j _
    simp (maxSteps:=10^6) only[undef,push_cast,↓Int.cast_ofNat_Int,Int.cast_ofNat_Int,↓reduceIte,reduceCtorEq,Nat.reduceEqDiff,Nat.reduceLT,Nat.reduceAdd,Int.reduceNeg,Int.reduceLT]
    (repeat (refine And.intro (by first|omega|decide) ?_))
    refine Bd (i+1,m,Az t (Ac 1).fd p,Fs) [0,1,2] ⟨by show i+1≤_;omega,hm,hpk,?_,fun h=>absurd h nd,fun h=>hn112 (dl h)⟩ (by show (Ah k).size - (i+1) < (Ah k).size - i;omega) ?_
    ·refine hnx.trans ?_
     rw[←hQ]
     have e2:(Bj (Ac 1).fd (pS t p)).1.l=[]:=(congrArg Fd.l hfd.1).trans (hfd.2 hs)
     unfold Cu
     show (({m.mg with ids:=m.mg.ids++Be (Bj (Ac 1).fd (pS t p)).1.l}:MgS),_)=_
     rw[e2,We,List.append_nil]
     rfl
    ·simp (maxSteps:=10^6) only[zb,↓Ak,push_cast,↓reduceIte,reduceCtorEq,Nat.reduceEqDiff,Nat.reduceLT,Nat.reduceAdd]
     done
  ·have al:=Cl (f:=Ac 0) rfl
   have ao:=fun hp=>Cs (Ac 0) hp
   have e97:((118:UInt8)=97)=False:=eq_false (by decide)
   have e99:((118:UInt8)=99)=False:=eq_false (by decide)
   have e103:((118:UInt8)=103)=False:=eq_false (by decide)
   have e105:((118:UInt8)=105)=False:=eq_false (by decide)
   have e110:((118:UInt8)=110)=False:=eq_false (by decide)
   have e111:((118:UInt8)=111)=False:=eq_false (by decide)
   have e112:((118:UInt8)=112)=False:=eq_false (by decide)
   have e114:((118:UInt8)=114)=False:=eq_false (by decide)
   have e115:((118:UInt8)=115)=False:=eq_false (by decide)
   have e120:((118:UInt8)=120)=False:=eq_false (by decide)
   have hst:(fdA (Ac 0)).set 0 (.v (.int .u8 1))=fdA (Ac 1):=by unfold fdA;rfl
   have al2:=Cl (f:=Ac 1) rfl
   simp (maxSteps:=10^6) only[hlt,hsi,i0,zb,gb,Aq,Br,H7,H8,H9,al,hst,al2,e105,e115,undef,push_cast,↓Int.toNat_natCast,↓reduceIte,reduceCtorEq,Nat.reduceEqDiff,Nat.reduceLT,Nat.reduceAdd]
   refine⟨of_eq_true (Cs _ _),?_⟩
   (repeat (refine And.intro (by first|omega|decide) ?_))
   refine Gg (ι:=FdR×List Fct) (fun x=>x.1.fd=(Bj (Ac 1).fd (pS t p)).1∧XOk x.2 x.1) (fun x=>.t [.g (fdA x.1),.a (.v (.int .i64 (pI (Az t (Ac 1).fd p))))]) (fun x=>[Res.blk 83 (.c (mgA zeroR)),.blk 83 (.c (mgA m)),.abs (fctRep Fs),.blk 32 (.c (fdA (Ac 1))),.abs (fctRep x.2)]) rfl F7 rfl (Jo t _ (cp - 1) p (Ac 1) (by simp (maxSteps:=10^6) only[zb,gb,push_cast,Nat.reduceAdd]) hp hlt0 hct hRt (Gi _ _) (by decide)) (Aa rfl) (by simp (maxSteps:=10^6) only[zb,gb,push_cast,Nat.reduceLT,Nat.reduceAdd]) ?_
   rintro⟨fx,Gs⟩ ⟨hfx,hX⟩
   dsimp only at hfx hX
   have xl:=Cl hX.s
   have q39':(mgA m).set 39 (.v fx.l.val)=mgA {m with ns:=⟨fx.l.A,fx.l.c,fx.l.l⟩}:=q39 ⟨fx.l.A,fx.l.c,fx.l.l⟩
   have q41':(mgA m).set 41 (.v fx.x.val)=mgA {m with xs:=⟨fx.x.A,fx.x.c,fx.x.l⟩}:=q41 ⟨fx.x.A,fx.x.c,fx.x.l⟩
   have hx0:0≤n64 fx.n:=Int.natCast_nonneg _
   have hx1:n64 fx.n≤9223372036854775807:=Jr hfx
   obtain⟨f0,f1,f2,f3,f36,f37,f38⟩:=Ez hX.s
   have fss:=Iw hX.s
   simp (maxSteps:=10^6) only[hlt,hsi,i0,zb,gb,Aq,Br,xl,f1,f2,q39',ml,e97,e99,e103,e110,e111,e114,e115,undef,push_cast,↓Int.toNat_natCast,↓reduceIte,reduceCtorEq,Nat.reduceEqDiff,Nat.reduceLT,Nat.reduceAdd,Int.reduceNeg]
   refine⟨of_eq_true (Cs _ _),?_⟩
   (repeat (refine And.intro (by first|omega|decide) ?_))
   refine⟨rfl,?_⟩
   (repeat (refine And.intro (by first|omega|decide) ?_))
   refine Jp 2 4 rfl rfl (by simp (maxSteps:=10^6) only[zb,gb,push_cast,Nat.reduceLT,Nat.reduceAdd]) ?_
   simp (maxSteps:=10^6) only[push_cast]
   have hQ:=Hk t (Ac 1).fd p hp
   have hpk:=Hl t (Ac 1).fd p hp
   have hmo:=hm.more (Gs:=Fs++Gs) fun f hf=>List.mem_append_left _ hf
   obtain⟨m',hm'⟩:∃m':MgR,m'={m with ns:=⟨fx.l.A,fx.l.c,fx.l.l⟩}:=⟨_,rfl⟩
   have hinv:MOk (Fs++Gs) m'∧Cu 118 (pS t p) m.mg=(m'.mg,pS t (Az t (Ac 1).fd p))∧m'.ids=m.ids∧m'.ps=m.ps:=by
    rw[hm']
    have el:fx.l.l=(Bj (Ac 1).fd (pS t p)).1.l:=congrArg Fd.l hfx
    have fw:fx.l.l.length≤1000:=by
     rw[el]
     exact Nat.le_trans (Tr (many:=128) pm1 (pS t p) (by decide)).1 (by decide)
    refine⟨⟨hmo.s,hmo.ids,?_,hmo.ps,hmo.xs,⟨hmo.few.sm,hmo.few.ids,fw,hmo.few.ps,hmo.few.xs⟩⟩,?_,rfl,rfl⟩
    ·exact hX.l.imp (fun e=>by rw[e]) fun h=>List.mem_append_right _ h
    ·rw[←hQ]
     show _=(({m.mg with ns:=fx.l.l}:MgS),_)
     rw[el]
     unfold Cu
     rfl
   refine Bd (i+1,m',Az t (Ac 1).fd p,Fs++Gs) [0,1,6] ⟨by show i+1≤_;omega,hinv.1,hpk,hnx.trans hinv.2.1,fun h=>hinv.2.2.1.trans (hn105 (dl h)),fun h=>hinv.2.2.2.trans (hn112 (dl h))⟩ (by show (Ah k).size - (i+1) < (Ah k).size - i;omega) ?_
   simp (maxSteps:=10^6) only[hm',zb,↓Ak,push_cast,↓reduceIte,reduceCtorEq,Nat.reduceEqDiff,Nat.reduceLT,Nat.reduceAdd]
   done
  ·have al:=Cl (f:=Ac 0) rfl
   have ao:=fun hp=>Cs (Ac 0) hp
   have e97:((112:UInt8)=97)=False:=eq_false (by decide)
   have e99:((112:UInt8)=99)=False:=eq_false (by decide)
   have e103:((112:UInt8)=103)=False:=eq_false (by decide)
   have e105:((112:UInt8)=105)=False:=eq_false (by decide)
   have e110:((112:UInt8)=110)=False:=eq_false (by decide)
   have e111:((112:UInt8)=111)=False:=eq_false (by decide)
   have e114:((112:UInt8)=114)=False:=eq_false (by decide)
   have e115:((112:UInt8)=115)=False:=eq_false (by decide)
   have e118:((112:UInt8)=118)=False:=eq_false (by decide)
   have e120:((112:UInt8)=120)=False:=eq_false (by decide)
   have hst:(fdA (Ac 0)).set 0 (.v (.int .u8 1))=fdA (Ac 1):=by unfold fdA;rfl
   have al2:=Cl (f:=Ac 1) rfl
   simp (maxSteps:=10^6) only[hlt,hsi,i0,zb,gb,Aq,Br,H7,H8,H9,al,hst,al2,e105,e115,e118,undef,push_cast,↓Int.toNat_natCast,↓reduceIte,reduceCtorEq,Nat.reduceEqDiff,Nat.reduceLT,Nat.reduceAdd]
   refine⟨of_eq_true (Cs _ _),?_⟩
   (repeat (refine And.intro (by first|omega|decide) ?_))
   obtain⟨p1,hp1⟩:∃p1,p1=Az t (Ac 1).fd p:=⟨_,rfl⟩
   obtain⟨p2,hp2⟩:∃p2,p2=Az t (Ac 1).fd p1:=⟨_,rfl⟩
   obtain⟨N1,hN1⟩:∃N,N=tkN t (Ac 1) p:=⟨_,rfl⟩
   obtain⟨N2,hN2⟩:∃N,N=tkN t (Ac 1) p1:=⟨_,rfl⟩
   have hrd:rdT (Ac 1)=27:=rfl
   have htc1:tkC t (Ac 1) p=.u64 N1:=by rw[hN1];unfold tkC;rfl
   have htc2:tkC t (Ac 1) p1=.u64 N2:=by rw[hN2];unfold tkC;rfl
   have hQ1:=Hk t (Ac 1).fd p hp
   have hpk1:=Hl t (Ac 1).fd p hp
   rw[←hp1] at hQ1 hpk1
   have hQ2:=Hk t (Ac 1).fd p1 hpk1
   have hpk2:=Hl t (Ac 1).fd p1 hpk1
   rw[←hp2] at hQ2 hpk2
   have hfd1:=Ts (f:=Ac 1) rfl hp
   have hfd2:=Ts (f:=Ac 1) rfl hpk1
   rw[←hN1,←hp1] at hfd1
   rw[←hN2,←hp2] at hfd2
   have jb:=fun m a b n=>Tu m a b n
   simp only[At.bnd] at jb
   have hta:∀(q:Plc) (j:Nat),tkA t (Ch A 1 cp) (cp - 1) (Ac 1) q j=At.v (.int .u8 1)::At.v (.int .u64 0)::(if (Az t (Ac 1).fd q).isSome then .o j else At.v (.slice none 0 0))::At.v (.slice none 0 0)::(List.map f8 (List.replicate 32 0)++[At.v (.slice none 0 0),At.v (.int .i64 0),At.v (.int .u64 0)]):=fun q j=>by
    unfold tkA
    rw[if_neg (show ¬(Ac 1).k=0 by decide),if_pos (show (Ac 1).k=1 from rfl)]
    rfl
   have hrf:Cu 112 (pS t p) m.mg=(({m.mg with ps:=m.mg.ps++(Be N1).zip N2}:MgS),pS t p2):=by
    have e1:(Bj (Ac 1).fd (pS t p)).1.l=N1:=congrArg Fd.l hfd1.1
    have e2:(Bj (Ac 1).fd (pS t p1)).1.l=N2:=congrArg Fd.l hfd2.1
    rw[←e1,←e2,←hQ2,←hQ1]
    unfold Cu
    rfl
   have hpm:m.mg.ps=[]:=by show m.ps.l=[];rw[hn112 (by rw[hdr];exact List.mem_cons_self ..)]
   rw[hpm,List.nil_append] at hrf
   have hid:m.ps.val=.slice none 0 0:=by rw[hn112 (by rw[hdr];exact List.mem_cons_self ..)];rfl
   have nfew1:=Tr (many:=128) pm1 (pS t p) (by decide)
   have hNe:(A5 ((128:Nat):Int) pm1 (pS t p)).1=N1:=congrArg Fd.l hfd1.1
   rw[hNe] at nfew1
   have nfew2:=Tr (many:=128) pm1 (pS t p1) (by decide)
   have hNe:(A5 ((128:Nat):Int) pm1 (pS t p1)).1=N2:=congrArg Fd.l hfd2.1
   rw[hNe] at nfew2
   refine Bk rfl F7 rfl (Pz t _ (cp - 1) p (Ac 1) (by simp (maxSteps:=10^6) only[zb,gb,push_cast,Nat.reduceAdd]) hp hlt0 hct hRt (Gi _ _)) (Aa rfl) (fun _=>by simp (maxSteps:=10^6) only[zb,gb,push_cast,Nat.reduceLT,Nat.reduceAdd]) ?_
   rw[hta,hrd,htc1,←hp1]
   have no:(Be N1).zip N2=[]→({m.mg with ps:=(Be N1).zip N2}:MgS)=m.mg:=fun e=>by rw[e,←hpm]
   by_cases hs1:p1.isSome
   case neg=>
    have hz:(Be N1).zip N2=[]:=by rw[hfd1.2 hs1];rfl
    rw[no hz] at hrf
    rw[if_neg hs1]
    simp (maxSteps:=10^6) only[hlt,hsi,i0,al2,zb,gb,Aq,Br,e97,e99,e103,e105,e110,e111,e114,e115,e118,e120,undef,push_cast,↓Int.toNat_natCast,↓reduceIte,reduceCtorEq,Nat.reduceEqDiff,Nat.reduceLT,Nat.reduceAdd,Int.reduceNeg,Int.reduceLE]
    (repeat (refine And.intro (by first|omega|decide) ?_))
    refine Bk rfl F7 rfl (Pz t _ (cp - 1) p1 (Ac 1) (by simp (maxSteps:=10^6) only[zb,gb,push_cast,Nat.reduceAdd]) hpk1 hlt0 hct hRt (Gi _ _)) (Aa rfl) (fun _=>by simp (maxSteps:=10^6) only[zb,gb,push_cast,Nat.reduceLT,Nat.reduceAdd]) ?_
    rw[hta,hrd,htc2,←hp2]
    have hs2:¬p2.isSome:=by
     cases hh:p1 with
     |none=>rw[hp2,hh];exact Bool.false_ne_true
     |some _=>rw[hh] at hs1;exact absurd rfl hs1
    rw[if_neg hs2]
    simp (maxSteps:=10^6) only[zb,gb,Aq,Br,undef,push_cast,↓reduceIte,Nat.reduceEqDiff,Nat.reduceLT,Nat.reduceAdd]
    (repeat (refine And.intro (by first|omega|decide) ?_))
    refine Bu (ι:=Nat) (fun j=>⟨[(0,.x (.a (.v (.slice A l.length cp)))),(2,.x (.a (.p 0 0))),(4,.x (.a (.p 1 0))),(5,.x (.a (.v (.string (Ah k))))),(7,.x (.a (.v (.slice (Ch A 1 cp) t.length (cp - 1))))),(6,.x (.a (.v (.int .i64 (pI p2))))),(8,.x (.a (.v (.int .i64 i)))),(10,.x (.a (.p 3 0))),(14,.x (.a (.p 4 0))),(16,.x (.a (.v (.int .i64 0))))],[Res.blk 83 (.c (mgA zeroR)),.blk 83 (.c (mgA m)),.abs (fctRep Fs),.blk 32 (.c (At.v (.int .u8 1)::At.v (.int .u64 0)::At.v (.slice none 0 0)::At.v (.slice none 0 0)::(List.map f8 (List.replicate 32 0)++[At.v (.slice none 0 0),At.v (.int .i64 0),At.v (.int .u64 0)]))),.blk 32 (.c (At.v (.int .u8 1)::At.v (.int .u64 0)::At.v (.slice none 0 0)::At.v (.slice none 0 0)::(List.map f8 (List.replicate 32 0)++[At.v (.slice none 0 0),At.v (.int .i64 0),At.v (.int .u64 0)])))]⟩)
     (fun j=>True) (fun j=>0) 0 [0,1,2,5,7] trivial ?_ ?_
    ·simp (maxSteps:=10^6) only[zb,↓Ak,Cq,push_cast,↓reduceIte,reduceCtorEq,Nat.reduceEqDiff,Nat.reduceLT,Nat.reduceAdd]
     done
    intro j _
    simp (maxSteps:=10^6) only[undef,push_cast,↓Int.cast_ofNat_Int,Int.cast_ofNat_Int,↓reduceIte,reduceCtorEq,Nat.reduceEqDiff,Nat.reduceLT,Nat.reduceAdd,Int.reduceNeg,Int.reduceLT]
    (repeat (refine And.intro (by first|omega|decide) ?_))
    refine Bd (i+1,m,p2,Fs) [0,1,2] ⟨by show i+1≤_;omega,hm,hpk2,hnx.trans hrf,fun h=>hn105 (dl h),fun h=>absurd h nd⟩ (by show (Ah k).size - (i+1) < (Ah k).size - i;omega) ?_
    simp (maxSteps:=10^6) only[zb,↓Ak,push_cast,↓reduceIte,reduceCtorEq,Nat.reduceEqDiff,Nat.reduceLT,Nat.reduceAdd]
    done
   rw[if_pos hs1]
   simp (maxSteps:=10^6) only[hlt,hsi,i0,al2,zb,gb,Aq,Br,e97,e99,e103,e105,e110,e111,e114,e115,e118,e120,undef,push_cast,↓Int.toNat_natCast,↓reduceIte,reduceCtorEq,Nat.reduceEqDiff,Nat.reduceLT,Nat.reduceAdd,Int.reduceNeg,Int.reduceLE]
   (repeat (refine And.intro (by first|omega|decide) ?_))
   refine Bk rfl F7 rfl (Pz t _ (cp - 1) p1 (Ac 1) (by simp (maxSteps:=10^6) only[zb,gb,push_cast,Nat.reduceLT,Nat.reduceAdd]) hpk1 hlt0 hct hRt (Gi _ _)) (Aa rfl) (fun _=>by simp (maxSteps:=10^6) only[zb,gb,push_cast,Nat.reduceLT,Nat.reduceAdd]) ?_
   rw[hta,hrd,htc2,←hp2]
   by_cases hs2:p2.isSome
   case neg=>
    rw[if_neg hs2]
    simp (maxSteps:=10^6) only[zb,gb,Aq,Br,undef,push_cast,↓reduceIte,Nat.reduceEqDiff,Nat.reduceLT,Nat.reduceAdd]
    (repeat (refine And.intro (by first|omega|decide) ?_))
    have hz:(Be N1).zip N2=[]:=by rw[hfd2.2 hs2,List.zip_nil_right]
    rw[no hz] at hrf
    refine Bu (ι:=Nat) (fun j=>⟨[(0,.x (.a (.v (.slice A l.length cp)))),(2,.x (.a (.p 0 0))),(4,.x (.a (.p 1 0))),(5,.x (.a (.v (.string (Ah k))))),(7,.x (.a (.v (.slice (Ch A 1 cp) t.length (cp - 1))))),(6,.x (.a (.v (.int .i64 (pI p2))))),(8,.x (.a (.v (.int .i64 i)))),(10,.x (.a (.p 4 0))),(14,.x (.a (.p 5 0))),(16,.x (.a (.v (.int .i64 0))))],[Res.blk 83 (.c (mgA zeroR)),.blk 83 (.c (mgA m)),.abs (fctRep Fs),.own 27 (.u64 N1),.blk 32 (.c (At.v (.int .u8 1)::At.v (.int .u64 0)::At.o 3::At.v (.slice none 0 0)::(List.map f8 (List.replicate 32 0)++[At.v (.slice none 0 0),At.v (.int .i64 0),At.v (.int .u64 0)]))),.blk 32 (.c (At.v (.int .u8 1)::At.v (.int .u64 0)::At.v (.slice none 0 0)::At.v (.slice none 0 0)::(List.map f8 (List.replicate 32 0)++[At.v (.slice none 0 0),At.v (.int .i64 0),At.v (.int .u64 0)])))]⟩)
     (fun j=>True) (fun j=>0) 0 [0,1,2,4,5,7] trivial ?_ ?_
    ·simp (maxSteps:=10^6) only[zb,↓Ak,Cq,push_cast,↓reduceIte,reduceCtorEq,Nat.reduceEqDiff,Nat.reduceLT,Nat.reduceAdd]
     done
    intro j _
    by_cases l0:(0:Int) < (N1.length:Int)
    ·simp (maxSteps:=10^6) only[l0,undef,push_cast,↓Int.cast_ofNat_Int,Int.cast_ofNat_Int,↓reduceIte,reduceCtorEq,Nat.reduceEqDiff,Nat.reduceLT,Nat.reduceAdd,Int.reduceNeg,Int.reduceLT]
     (repeat (refine And.intro (by first|omega|decide) ?_))
     refine Bd (i+1,m,p2,Fs) [0,1,2] ⟨by show i+1≤_;omega,hm,hpk2,hnx.trans hrf,fun h=>hn105 (dl h),fun h=>absurd h nd⟩ (by show (Ah k).size - (i+1) < (Ah k).size - i;omega) ?_
     simp (maxSteps:=10^6) only[zb,↓Ak,push_cast,↓reduceIte,reduceCtorEq,Nat.reduceEqDiff,Nat.reduceLT,Nat.reduceAdd]
     done
    ·simp (maxSteps:=10^6) only[l0,undef,push_cast,↓reduceIte,reduceCtorEq,Nat.reduceEqDiff,Nat.reduceLT,Nat.reduceAdd,Int.reduceNeg]
     (repeat (refine And.intro (by first|omega|decide) ?_))
     refine Bd (i+1,m,p2,Fs) [0,1,2] ⟨by show i+1≤_;omega,hm,hpk2,hnx.trans hrf,fun h=>hn105 (dl h),fun h=>absurd h nd⟩ (by show (Ah k).size - (i+1) < (Ah k).size - i;omega) ?_
     simp (maxSteps:=10^6) only[zb,↓Ak,push_cast,↓reduceIte,reduceCtorEq,Nat.reduceEqDiff,Nat.reduceLT,Nat.reduceAdd]
     done
   rw[if_pos hs2]
   simp (maxSteps:=10^6) only[zb,gb,Aq,Br,undef,push_cast,↓reduceIte,Nat.reduceEqDiff,Nat.reduceLT,Nat.reduceAdd]
   (repeat (refine And.intro (by first|omega|decide) ?_))
   have jl:=fun a b=>Xt hm.s a b
   have jg:=fun a b=>(Xu hm.s a b).2
   have js:=fun a b=>(Xv hm.s a b).2
   rw[←Aes m,hid]
   refine Xb 1 40 83 166 2 _ (.c (pcs [])) (by decide) rfl (Xw hm.s _ _).2 (by rw[Jd];rfl) (by simp (maxSteps:=10^6) only[zb,gb,jb,push_cast,Nat.reduceLT,Nat.reduceAdd]) ?_
   simp (maxSteps:=10^6) only[js,push_cast,Nat.reduceAdd]
   obtain⟨Z,hZ⟩:∃Z,Z=(Be N1).zip N2:=⟨_,rfl⟩
   have hZl:Z.length=min N1.length N2.length:=by rw[hZ,List.length_zip,Iu]
   refine Bu (ι:=Nat) (fun j=>⟨[(0,.x (.a (.v (.slice A l.length cp)))),(2,.x (.a (.p 0 0))),(4,.x (.a (.p 1 0))),(5,.x (.a (.v (.string (Ah k))))),(7,.x (.a (.v (.slice (Ch A 1 cp) t.length (cp - 1))))),(6,.x (.a (.v (.int .i64 (pI p2))))),(8,.x (.a (.v (.int .i64 i)))),(10,.x (.a (.p 4 0))),(14,.x (.a (.p 6 0))),(16,.x (.a (.v (.int .i64 j))))],[Res.blk 83 (.c (mgA zeroR)),.blk 83 (.c (mgJ m (.v m.ids.val) (.o 7))),.abs (fctRep Fs),.own 27 (.u64 N1),.blk 32 (.c (At.v (.int .u8 1)::At.v (.int .u64 0)::At.o 3::At.v (.slice none 0 0)::(List.map f8 (List.replicate 32 0)++[At.v (.slice none 0 0),At.v (.int .i64 0),At.v (.int .u64 0)]))),.own 27 (.u64 N2),.blk 32 (.c (At.v (.int .u8 1)::At.v (.int .u64 0)::At.o 5::At.v (.slice none 0 0)::(List.map f8 (List.replicate 32 0)++[At.v (.slice none 0 0),At.v (.int .i64 0),At.v (.int .u64 0)]))),.onn 166 2 (.c (pcs (Z.take j)))]⟩)
    (fun j=>j≤Z.length) (fun j=>Z.length - j) 0 [0,1,2,4,5,6,7,8] (Nat.zero_le _) ?_ ?_
   ·simp (maxSteps:=10^6) only[zb,↓Ak,jb,↓Js,Cq,List.take_zero,push_cast,↓Int.cast_ofNat_Int,Int.cast_ofNat_Int,↓reduceIte,reduceCtorEq,Nat.reduceEqDiff,Nat.reduceLT,Nat.reduceAdd]
    done
   intro j hj
   have j0:(0:Int)≤(j:Int):=by omega
   by_cases jlt1:(j:Int) < (N1.length:Int)
   ·by_cases jlt2:(j:Int) < (N2.length:Int)
    ·have hil:j < N1.length:=by omega
     have hil2:j < N2.length:=by omega
     have hzn:Z.take (j+1)=Z.take j++[(n64 (ix N1 j),ix N2 j)]:=by rw[hZ];exact Adj _ _ j hil hil2
     have hv:n64 (ix N1 j)≤9223372036854775807:=by
      have:=UInt64.le_iff_toNat_le.1 (nfew1.2 _ (Lq hil))
      have e2:pm1.toNat=2305843009213693950:=rfl
      unfold n64
      omega
     have hv0:0≤n64 (ix N1 j):=Int.natCast_nonneg _
     have hpl:(Z.take j).length=j:=by rw[List.length_take,Nat.min_eq_left hj]
     have e3:j*2 / 2=j:=Nat.mul_div_cancel _ (by omega)
     have d1:(j+1)*16≤140737488355328:=by omega
     have d2:j+1≤2 ^ 63 - 1:=by omega
     have hap:pcs (Z.take j)++[.v (.int .i64 (n64 (ix N1 j))),.v (vU64 (ix N2 j))]=pcs (Z.take (j+1)):=by
      rw[hzn,V4,Ip,Jd]
     simp (maxSteps:=10^6) only[jlt1,jlt2,undef,push_cast,↓reduceIte,reduceCtorEq,Nat.reduceEqDiff,Nat.reduceLT,Nat.reduceAdd]
     (repeat (refine And.intro (by first|omega|decide) ?_))
     refine Ps 8 [7] 17 (.rd 0 (.rd 1 (.rd 2 (.rd 3 (.rd 4 (.rd 5 (.rd 6 (.rd 7 (.rd 8 (.rd 9 (.rd 10 (.rd 11 (.rd 12 (.wr 13 (.wr 14 (.wr 15 (.rd 16 .nil))))))))))))))))) ⟨[(0,.x (.a (.v (.slice A l.length cp)))),(2,.x (.a (.p 0 0))),(4,.x (.a (.p 1 0))),(5,.x (.a (.v (.string (Ah k))))),(7,.x (.a (.v (.slice (Ch A 1 cp) t.length (cp - 1))))),(6,.x (.a (.v (.int .i64 (pI p2))))),(8,.x (.a (.v (.int .i64 i)))),(10,.x (.a (.p 4 0))),(14,.x (.a (.p 6 0))),(16,.x (.a (.v (.int .i64 j)))),(166,.x (.a (.o 8))),(167,.x (.a (.p 1 40)))],[Res.blk 83 (.c (mgA zeroR)),.blk 83 (.c (mgJ m (.v m.ids.val) (.o 7))),.abs (fctRep Fs),.own 27 (.u64 N1),.blk 32 (.c (At.v (.int .u8 1)::At.v (.int .u64 0)::At.o 3::At.v (.slice none 0 0)::(List.map f8 (List.replicate 32 0)++[At.v (.slice none 0 0),At.v (.int .i64 0),At.v (.int .u64 0)]))),.own 27 (.u64 N2),.blk 32 (.c (At.v (.int .u8 1)::At.v (.int .u64 0)::At.o 5::At.v (.slice none 0 0)::(List.map f8 (List.replicate 32 0)++[At.v (.slice none 0 0),At.v (.int .i64 0),At.v (.int .u64 0)]))),.gone,.onn 166 2 (.c (pcs (Z.take (j+1))))]⟩ (by kernel_rfl) (by kernel_rfl) (Nat.le_refl 8) ?_ ?_
     ·simp (maxSteps:=10^6) only[jlt1,jlt2,j0,hv,hpl,e3,d1,d2,hap,jl,jg,Ag,Sl,zb,jb,undef,push_cast,↓Int.toNat_natCast,↓reduceIte,reduceCtorEq,Nat.reduceEqDiff,Nat.reduceLT,Nat.reduceLeDiff,Nat.reduceAdd,Nat.reduceSub,Nat.reduceMul,Int.reduceNeg]
      (repeat (refine And.intro (by first|omega|decide) ?_))
      refine Il [0,1,2,3,4,5,6,7,9] ?_
      simp (maxSteps:=10^6) only[Bq,zb,↓Ak,jb,↓Js,Cq,push_cast,↓reduceIte,reduceCtorEq,Nat.reduceEqDiff,Nat.reduceLT,Nat.reduceAdd]
      done
     ·simp (maxSteps:=10^6) only[jl,js,undef,push_cast,↓reduceIte,reduceCtorEq,Nat.reduceEqDiff,Nat.reduceLT,Nat.reduceAdd,Int.reduceNeg]
      (repeat (refine And.intro (by first|omega|decide) ?_))
      refine Bd (j+1) [0,1,2,3,4,5,6,8] (by omega) (by omega) ?_
      simp (maxSteps:=10^6) only[Bq,zb,↓Ak,jb,↓Js,Cq,push_cast,↓reduceIte,reduceCtorEq,Nat.reduceEqDiff,Nat.reduceLT,Nat.reduceAdd]
      done
    ·have hjZ:Z.take j=Z:=List.take_of_length_le (by omega)
     simp (maxSteps:=10^6) only[jlt1,jlt2,hjZ,undef,push_cast,↓reduceIte,reduceCtorEq,Nat.reduceEqDiff,Nat.reduceLT,Nat.reduceAdd,Int.reduceNeg]
     (repeat (refine And.intro (by first|omega|decide) ?_))
     refine Aer 7 2 Z.length (vs:=pvs Z) rfl (fun γ=>V5 γ Z) (O5 Z) rfl (by decide) fun A1 cap1=>?_
     obtain⟨m',hm'⟩:∃m':MgR,m'={m with ps:=⟨A1,cap1,Z⟩}:=⟨_,rfl⟩
     have hmj:mgJ m (.v m.ids.val) (.v (.slice A1 Z.length cap1))=mgA m':=by rw[hm'];unfold mgJ mgA;rfl
     have hmo:=hm.more (Gs:=Fs++[⟨.slice A1 Z.length cap1,Z.length,pvs Z⟩]) fun f hf=>List.mem_append_left _ hf
     refine Bd (i+1,m',p2,Fs++[⟨.slice A1 Z.length cap1,Z.length,pvs Z⟩]) [0,1,2] ⟨by show i+1≤_;omega,?_,hpk2,?_,fun h=>by rw[hm'];exact hn105 (dl h),fun h=>absurd h nd⟩ (by show (Ah k).size - (i+1) < (Ah k).size - i;omega) ?_
     ·rw[hm']
      exact⟨hmo.s,hmo.ids,hmo.ns,.inr (List.mem_append_right _ (List.mem_singleton.2 rfl)),hmo.xs,⟨hmo.few.sm,hmo.few.ids,hmo.few.ns,by show Z.length≤1000;omega,hmo.few.xs⟩⟩
     ·rw[hnx,hrf,hm',hZ]
      rfl
     ·simp (maxSteps:=10^6) only[P0,Xx,P1,hmj,zb,↓Ak,push_cast,↓reduceIte,reduceCtorEq,Nat.reduceEqDiff,Nat.reduceLT,Nat.reduceAdd]
      done
   ·have hjZ:Z.take j=Z:=List.take_of_length_le (by omega)
    simp (maxSteps:=10^6) only[jlt1,hjZ,undef,push_cast,↓reduceIte,reduceCtorEq,Nat.reduceEqDiff,Nat.reduceLT,Nat.reduceAdd,Int.reduceNeg]
    (repeat (refine And.intro (by first|omega|decide) ?_))
    refine Aer 7 2 Z.length (vs:=pvs Z) rfl (fun γ=>V5 γ Z) (O5 Z) rfl (by decide) fun A1 cap1=>?_
    obtain⟨m',hm'⟩:∃m':MgR,m'={m with ps:=⟨A1,cap1,Z⟩}:=⟨_,rfl⟩
    have hmj:mgJ m (.v m.ids.val) (.v (.slice A1 Z.length cap1))=mgA m':=by rw[hm'];unfold mgJ mgA;rfl
    have hmo:=hm.more (Gs:=Fs++[⟨.slice A1 Z.length cap1,Z.length,pvs Z⟩]) fun f hf=>List.mem_append_left _ hf
    refine Bd (i+1,m',p2,Fs++[⟨.slice A1 Z.length cap1,Z.length,pvs Z⟩]) [0,1,2] ⟨by show i+1≤_;omega,?_,hpk2,?_,fun h=>by rw[hm'];exact hn105 (dl h),fun h=>absurd h nd⟩ (by show (Ah k).size - (i+1) < (Ah k).size - i;omega) ?_
    ·rw[hm']
     exact⟨hmo.s,hmo.ids,hmo.ns,.inr (List.mem_append_right _ (List.mem_singleton.2 rfl)),hmo.xs,⟨hmo.few.sm,hmo.few.ids,hmo.few.ns,by show Z.length≤1000;omega,hmo.few.xs⟩⟩
    ·rw[hnx,hrf,hm',hZ]
     rfl
    ·simp (maxSteps:=10^6) only[P0,Xx,P1,hmj,zb,↓Ak,push_cast,↓reduceIte,reduceCtorEq,Nat.reduceEqDiff,Nat.reduceLT,Nat.reduceAdd]
     done
  ·have al:=Cl (f:=Ac 0) rfl
   have ao:=fun hp=>Cs (Ac 0) hp
   have e97:((120:UInt8)=97)=False:=eq_false (by decide)
   have e99:((120:UInt8)=99)=False:=eq_false (by decide)
   have e103:((120:UInt8)=103)=False:=eq_false (by decide)
   have e105:((120:UInt8)=105)=False:=eq_false (by decide)
   have e110:((120:UInt8)=110)=False:=eq_false (by decide)
   have e111:((120:UInt8)=111)=False:=eq_false (by decide)
   have e112:((120:UInt8)=112)=False:=eq_false (by decide)
   have e114:((120:UInt8)=114)=False:=eq_false (by decide)
   have e115:((120:UInt8)=115)=False:=eq_false (by decide)
   have e118:((120:UInt8)=118)=False:=eq_false (by decide)
   have hst:(fdA (Ac 0)).set 0 (.v (.int .u8 4))=fdA (Ac 4):=by unfold fdA;rfl
   have al2:=Cl (f:=Ac 4) rfl
   simp (maxSteps:=10^6) only[hlt,hsi,i0,zb,gb,Aq,Br,H7,H8,H9,al,hst,al2,e105,e112,e115,e118,undef,push_cast,↓Int.toNat_natCast,↓reduceIte,reduceCtorEq,Nat.reduceEqDiff,Nat.reduceLT,Nat.reduceAdd]
   refine⟨of_eq_true (Cs _ _),?_⟩
   (repeat (refine And.intro (by first|omega|decide) ?_))
   refine Gg (ι:=FdR×List Fct) (fun x=>x.1.fd=(Bj (Ac 4).fd (pS t p)).1∧XOk x.2 x.1) (fun x=>.t [.g (fdA x.1),.a (.v (.int .i64 (pI (Az t (Ac 4).fd p))))]) (fun x=>[Res.blk 83 (.c (mgA zeroR)),.blk 83 (.c (mgA m)),.abs (fctRep Fs),.blk 32 (.c (fdA (Ac 4))),.abs (fctRep x.2)]) rfl F7 rfl (Jo t _ (cp - 1) p (Ac 4) (by simp (maxSteps:=10^6) only[zb,gb,push_cast,Nat.reduceAdd]) hp hlt0 hct hRt (Gi _ _) (by decide)) (Aa rfl) (by simp (maxSteps:=10^6) only[zb,gb,push_cast,Nat.reduceLT,Nat.reduceAdd]) ?_
   rintro⟨fx,Gs⟩ ⟨hfx,hX⟩
   dsimp only at hfx hX
   have xl:=Cl hX.s
   have q39':(mgA m).set 39 (.v fx.l.val)=mgA {m with ns:=⟨fx.l.A,fx.l.c,fx.l.l⟩}:=q39 ⟨fx.l.A,fx.l.c,fx.l.l⟩
   have q41':(mgA m).set 41 (.v fx.x.val)=mgA {m with xs:=⟨fx.x.A,fx.x.c,fx.x.l⟩}:=q41 ⟨fx.x.A,fx.x.c,fx.x.l⟩
   have hx0:0≤n64 fx.n:=Int.natCast_nonneg _
   have hx1:n64 fx.n≤9223372036854775807:=Jr hfx
   obtain⟨f0,f1,f2,f3,f36,f37,f38⟩:=Ez hX.s
   have fss:=Iw hX.s
   simp (maxSteps:=10^6) only[hlt,hsi,i0,zb,gb,Aq,Br,xl,f1,f36,q41',ml,e97,e99,e103,e110,e111,e114,e115,e118,undef,push_cast,↓Int.toNat_natCast,↓reduceIte,reduceCtorEq,Nat.reduceEqDiff,Nat.reduceLT,Nat.reduceAdd,Int.reduceNeg]
   refine⟨of_eq_true (Cs _ _),?_⟩
   (repeat (refine And.intro (by first|omega|decide) ?_))
   refine⟨rfl,?_⟩
   (repeat (refine And.intro (by first|omega|decide) ?_))
   refine Jp 2 4 rfl rfl (by simp (maxSteps:=10^6) only[zb,gb,push_cast,Nat.reduceLT,Nat.reduceAdd]) ?_
   simp (maxSteps:=10^6) only[push_cast]
   have hQ:=Hk t (Ac 4).fd p hp
   have hpk:=Hl t (Ac 4).fd p hp
   have hmo:=hm.more (Gs:=Fs++Gs) fun f hf=>List.mem_append_left _ hf
   obtain⟨m',hm'⟩:∃m':MgR,m'={m with xs:=⟨fx.x.A,fx.x.c,fx.x.l⟩}:=⟨_,rfl⟩
   have hinv:MOk (Fs++Gs) m'∧Cu 120 (pS t p) m.mg=(m'.mg,pS t (Az t (Ac 4).fd p))∧m'.ids=m.ids∧m'.ps=m.ps:=by
    rw[hm']
    have el:fx.x.l=(Bj (Ac 4).fd (pS t p)).1.x:=congrArg Fd.x hfx
    have fw:fx.x.l.length≤1000:=by
     rw[el]
     exact Nat.le_trans (Bbq (many:=128) (pS t p) (by decide)) (by decide)
    refine⟨⟨hmo.s,hmo.ids,hmo.ns,hmo.ps,?_,⟨hmo.few.sm,hmo.few.ids,hmo.few.ns,hmo.few.ps,fw⟩⟩,?_,rfl,rfl⟩
    ·exact hX.x.imp (fun e=>by rw[e]) fun h=>List.mem_append_right _ h
    ·rw[←hQ]
     show _=(({m.mg with xs:=fx.x.l}:MgS),_)
     rw[el]
     unfold Cu
     rfl
   refine Bd (i+1,m',Az t (Ac 4).fd p,Fs++Gs) [0,1,6] ⟨by show i+1≤_;omega,hinv.1,hpk,hnx.trans hinv.2.1,fun h=>hinv.2.2.1.trans (hn105 (dl h)),fun h=>hinv.2.2.2.trans (hn112 (dl h))⟩ (by show (Ah k).size - (i+1) < (Ah k).size - i;omega) ?_
   simp (maxSteps:=10^6) only[hm',zb,↓Ak,push_cast,↓reduceIte,reduceCtorEq,Nat.reduceEqDiff,Nat.reduceLT,Nat.reduceAdd]
   done
  ·have al:=Cl (f:=Ac 0) rfl
   have ao:=fun hp=>Cs (Ac 0) hp
   have e97:((114:UInt8)=97)=False:=eq_false (by decide)
   have e99:((114:UInt8)=99)=False:=eq_false (by decide)
   have e103:((114:UInt8)=103)=False:=eq_false (by decide)
   have e105:((114:UInt8)=105)=False:=eq_false (by decide)
   have e110:((114:UInt8)=110)=False:=eq_false (by decide)
   have e111:((114:UInt8)=111)=False:=eq_false (by decide)
   have e112:((114:UInt8)=112)=False:=eq_false (by decide)
   have e115:((114:UInt8)=115)=False:=eq_false (by decide)
   have e118:((114:UInt8)=118)=False:=eq_false (by decide)
   have e120:((114:UInt8)=120)=False:=eq_false (by decide)
   simp (maxSteps:=10^6) only[hlt,hsi,i0,zb,gb,Aq,Br,H7,H8,H9,al,e105,e112,e115,e118,e120,undef,push_cast,↓Int.toNat_natCast,↓reduceIte,reduceCtorEq,Nat.reduceEqDiff,Nat.reduceLT,Nat.reduceAdd]
   refine⟨of_eq_true (Cs _ _),?_⟩
   (repeat (refine And.intro (by first|omega|decide) ?_))
   refine Gg (ι:=FdR×List Fct) (fun x=>x.1.fd=(Bj (Ac 0).fd (pS t p)).1∧XOk x.2 x.1) (fun x=>.t [.g (fdA x.1),.a (.v (.int .i64 (pI (Az t (Ac 0).fd p))))]) (fun x=>[Res.blk 83 (.c (mgA zeroR)),.blk 83 (.c (mgA m)),.abs (fctRep Fs),.blk 32 (.c (fdA (Ac 0))),.abs (fctRep x.2)]) rfl F7 rfl (Jo t _ (cp - 1) p (Ac 0) (by simp (maxSteps:=10^6) only[zb,gb,push_cast,Nat.reduceAdd]) hp hlt0 hct hRt (Gi _ _) (by decide)) (Aa rfl) (by simp (maxSteps:=10^6) only[zb,gb,push_cast,Nat.reduceLT,Nat.reduceAdd]) ?_
   rintro⟨fx,Gs⟩ ⟨hfx,hX⟩
   dsimp only at hfx hX
   have xl:=Cl hX.s
   have q39':(mgA m).set 39 (.v fx.l.val)=mgA {m with ns:=⟨fx.l.A,fx.l.c,fx.l.l⟩}:=q39 ⟨fx.l.A,fx.l.c,fx.l.l⟩
   have q41':(mgA m).set 41 (.v fx.x.val)=mgA {m with xs:=⟨fx.x.A,fx.x.c,fx.x.l⟩}:=q41 ⟨fx.x.A,fx.x.c,fx.x.l⟩
   have hx0:0≤n64 fx.n:=Int.natCast_nonneg _
   have hx1:n64 fx.n≤9223372036854775807:=Jr hfx
   obtain⟨f0,f1,f2,f3,f36,f37,f38⟩:=Ez hX.s
   have fss:=Iw hX.s
   simp (maxSteps:=10^6) only[hlt,hsi,i0,zb,gb,Aq,Br,xl,f1,q42,ml,e97,e99,e103,e111,undef,push_cast,↓Int.toNat_natCast,↓reduceIte,reduceCtorEq,Nat.reduceEqDiff,Nat.reduceLT,Nat.reduceAdd,Int.reduceNeg]
   refine⟨of_eq_true (Cs _ _),?_⟩
   (repeat (refine And.intro (by first|omega|decide) ?_))
   refine Jp 2 4 rfl rfl (by simp (maxSteps:=10^6) only[zb,gb,push_cast,Nat.reduceLT,Nat.reduceAdd]) ?_
   simp (maxSteps:=10^6) only[push_cast]
   have hQ:=Hk t (Ac 0).fd p hp
   have hpk:=Hl t (Ac 0).fd p hp
   have hmo:=hm.more (Gs:=Fs++Gs) fun f hf=>List.mem_append_left _ hf
   obtain⟨m',hm'⟩:∃m':MgR,m'={m with re:=n64 fx.n}:=⟨_,rfl⟩
   have hinv:MOk (Fs++Gs) m'∧Cu 114 (pS t p) m.mg=(m'.mg,pS t (Az t (Ac 0).fd p))∧m'.ids=m.ids∧m'.ps=m.ps:=by
    rw[hm']
    refine⟨⟨hmo.s,hmo.ids,hmo.ns,hmo.ps,hmo.xs,⟨hmo.few.sm,hmo.few.ids,hmo.few.ns,hmo.few.ps,hmo.few.xs⟩⟩,?_,rfl,rfl⟩
    rw[←hQ,show fx.n=(Bj (Ac 0).fd (pS t p)).1.n from congrArg Fd.n hfx]
    unfold Cu
    rfl
   refine Bd (i+1,m',Az t (Ac 0).fd p,Fs++Gs) [0,1,6] ⟨by show i+1≤_;omega,hinv.1,hpk,hnx.trans hinv.2.1,fun h=>hinv.2.2.1.trans (hn105 (dl h)),fun h=>hinv.2.2.2.trans (hn112 (dl h))⟩ (by show (Ah k).size - (i+1) < (Ah k).size - i;omega) ?_
   simp (maxSteps:=10^6) only[hm',zb,↓Ak,push_cast,↓reduceIte,reduceCtorEq,Nat.reduceEqDiff,Nat.reduceLT,Nat.reduceAdd]
   done
 ·obtain rfl:i=(Ah k).size:=by omega
  have hge:G2 (Aj k) {Bt with k:=k} (t,false)=(m.mg,pS t p):=by
   have:=hg
   unfold rgo at this
   rw[Ji,List.take_length] at this
   exact this
  have hD':D=if Cc m.mg=true∧Cr m.mg=l then some m.mg else none:=by rw[hD,hlk,E0,hge]
  have G:=F8.of (FV.no hR)
  have r1:=G.rd
  have r2:=G.rdOk
  have e3:=Wt (Cr m.mg) l
  have zz:=B4
  have zok:MOk Fs zeroR:=⟨rfl,.inl rfl,.inl rfl,.inl rfl,.inl rfl,⟨rfl,Nat.zero_le _,Nat.zero_le _,Nat.zero_le _,Nat.zero_le _⟩⟩
  have hno:D=none→I2 D=3∧zeroR.mg=D.getD Bt:=fun e=>by rw[e];unfold I2;exact⟨rfl,rfl⟩
  have hyes:D=some m.mg→I2 D=0∧m.mg=D.getD Bt:=fun e=>by rw[e];unfold I2;exact⟨rfl,rfl⟩
  simp (maxSteps:=10^6) only[hlt,ml,push_cast,↓reduceIte,reduceCtorEq,Nat.reduceEqDiff,Nat.reduceLT,Nat.reduceAdd]
  (repeat (refine And.intro (by first|omega|decide) ?_))
  cases hc:Cc m.mg with
  |false=>
   obtain⟨h1,h2⟩:=hno (by rw[hD',if_neg];rw[hc];exact fun e=>Bool.false_ne_true e.1)
   refine A8 rfl R4 rfl (Ael (Ny (k:=2) hm rfl) hc) (Aa rfl) ?_
   simp (maxSteps:=10^6) only[Aq,Jq,B4,B5,undef,push_cast,↓reduceIte,reduceCtorEq,Nat.reduceEqDiff,Nat.reduceLT,Nat.reduceAdd,Int.reduceEq]
   refine⟨of_eq_true (C1 _ _),zeroR,Fs,⟨h2,zok⟩,Bp [2] ?_⟩
   simp (maxSteps:=10^6) only[h1,zb,↓Lu,push_cast,↓reduceIte]
   done
  |true=>
   refine Bk rfl R4 rfl (Aem (Ny (k:=2) hm rfl) hc (by simp (maxSteps:=10^6) only[zb,push_cast,Nat.reduceAdd])) (Aa rfl) (fun _=>by simp (maxSteps:=10^6) only[zb,push_cast,Nat.reduceLT,Nat.reduceAdd]) ?_
   by_cases he:Cr m.mg=l
   ·obtain⟨h1,h2⟩:=hyes (by rw[hD',if_pos ⟨hc,he⟩])
    rw[decide_eq_true he] at e3
    simp (maxSteps:=10^6) only[ml,r1,r2,e3,B5,undef,push_cast,↓reduceIte,reduceCtorEq,Nat.reduceEqDiff,Nat.reduceLT,Nat.reduceAdd]
    refine⟨of_eq_true (C1 _ _),m,Fs,⟨h2,hm⟩,Bp [2] ?_⟩
    simp (maxSteps:=10^6) only[h1,zb,↓Lu,push_cast,↓reduceIte]
    done
   ·obtain⟨h1,h2⟩:=hno (by rw[hD',if_neg fun e=>he e.2])
    rw[decide_eq_false he] at e3
    simp (maxSteps:=10^6) only[r1,r2,e3,Aq,Jq,B4,B5,undef,push_cast,↓reduceIte,reduceCtorEq,Nat.reduceEqDiff,Nat.reduceLT,Nat.reduceAdd]
    refine⟨of_eq_true (C1 _ _),zeroR,Fs,⟨h2,zok⟩,Bp [2] ?_⟩
    simp (maxSteps:=10^6) only[h1,zb,↓Lu,push_cast,↓reduceIte]
    done
end
end Go.Proofs.YtiaeollemmkclaaDoor
