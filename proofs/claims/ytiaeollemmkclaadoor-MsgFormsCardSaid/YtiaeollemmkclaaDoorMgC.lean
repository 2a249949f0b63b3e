import Derived.Test.YtiaeollemmkclaaDoorGhN
/- Layer 16: msg.Decode. -/
namespace Go.Proofs.YtiaeollemmkclaaDoor
open Go.RowKit
set_option linter.unusedSimpArgs false
set_option linter.unusedVariables false
def Nk:Option MgS→Sv
 |none=>.t [.g (mgA zeroR),.a (.v (.iface 137 (.int .i64 3)))]
 |some m=>.t [.g (mgO m 0 1 2 3),.a (.v .nilIface)]
def Nl:Option MgS→List Res
 |none=>[]
 |some m=>[.own 3 (.i64 m.ids),.own 27 (.u64 m.ns),.onn 160 2 (.c (pcs m.ps)),.own 136 (.u32 m.xs)]
theorem A7x (y:UInt8):({Bt with k:=y}:MgS).In 0:=⟨rfl,Nat.zero_le _,Nat.zero_le _,Nat.zero_le _,Nat.zero_le _⟩
theorem A7y (c:UInt8) (f:List UInt8) (m:MgS) (st:Rs):Ga (c::f) m st=match Jf c st m with
 |none=>none
 |some (m',st')=>Ga f m' st':=rfl
theorem A7z (m:MgS) (st:Rs):Ga [] m st=some (m,st):=rfl
theorem A70 {c:UInt8} {s:RS} {m:MgS} {A:Option Addr} {vs:List Value} (h:s.From A vs):(B1 c s m).2.From A vs:=fun X w hf=>A64 (h X w hf)
theorem A71 {s:RS} {A:Option Addr} {vs:List Value} (h:s.From A vs):(Bm s).2.From A vs:=fun X w hf=>by
 unfold Bm Bi
 exact Jj (Jj (h X w hf))
theorem A72 (m:MgR) (j:Nat) (v:Value):(mgA m).map (At.sub j v)=mgA m:=by
 unfold mgA mgL
 rw[List.map_append,List.map_append,List.map_map]
 rfl
theorem Nn {l:List At} {i j n:Nat} (h:∀x∈l,x.bnd n) (hj:j < n):∀x∈l.set i (.o j),x.bnd n:=fun x hx=>by
 rcases List.mem_or_eq_of_mem_set hx with h1|rfl
 ·exact h x h1
 ·exact hj
theorem A73:Bt.ids=[]:=rfl
theorem A74:Bt.ns=[]:=rfl
theorem A75:Bt.ps=[]:=rfl
theorem A76:Bt.xs=[]:=rfl
theorem A77:Lr none=none:=rfl
theorem A78 (m:MgS) (st:Rs):Lr (some (m,st))=if st=([],false)∧Cc m=true then some m else none:=rfl
theorem A79 (m:MgS) (s:RS):Lr (some (m,s.rs))=if (s.bad=false∧s.l=[])∧Cc m=true then some m else none:=by
 rw[A78]
 have e:(s.rs=([],false))↔(s.bad=false∧s.l=[]):=⟨fun h=>⟨congrArg Prod.snd h,congrArg Prod.fst h⟩,fun h=>by show (s.l,s.bad)=_;rw[h.1,h.2]⟩
 by_cases h:s.bad=false∧s.l=[]
 ·by_cases hc:Cc m=true
  ·rw[if_pos ⟨e.2 h,hc⟩,if_pos ⟨h,hc⟩]
  ·rw[if_neg (fun x=>hc x.2),if_neg (fun x=>hc x.2)]
 ·rw[if_neg (fun x=>h (e.1 x.1)),if_neg (fun x=>h x.1)]
theorem A8a {w0:World} {hp:List Res} {k0 kf n cp:Nat} {s:RS} {A:Option Addr} {vs:List Value} {l:List Fct} (h:s.From A vs) (hk:B3 hp[k0]?=some (132,.c [.v (.slice s.A s.l.length s.c),.v (.bool s.bad)])) (hkf:hp[kf]?=some (.abs (fctRep l))) (hf:⟨.slice A n cp,n,vs⟩∈l):
  Ad Tryd.prog w0 No 17 [.x (.a (.p k0 0))] hp (.x (.a (.v (if s.bad=false∧s.l=[] then .nilIface else .iface 137 (.int .i64 3))))) hp:=fun γ w hS=>
 A5q (h No w (Sz hS hkf hf (Sub.refl A vs) [] (by simp) fun b h=>h.elim)).max hk γ w hS
theorem A8b {X:Nat→Prop} {w:World} {s:RS} {m:MgS} {p:Nat} {c:UInt8} (hs:s.Ok X w) (hm:m.In p) (hc:c∈H4) (h:¬c=112):RdM c s (B1 c s m).2 m (B1 c s m).1 true X w:=by
 simp only[H4,List.mem_cons,List.not_mem_nil,or_false] at hc
 rcases hc with rfl|rfl|rfl|rfl|rfl|rfl|rfl|rfl|rfl|rfl|rfl
 ·exact A7g hs hm
 ·exact A7h hs hm
 ·exact A7i hs hm
 ·exact A7j hs hm
 ·exact A7k hs hm
 ·exact A7l hs hm
 ·exact A7m hs hm
 ·exact A7n hs hm
 ·exact absurd rfl h
 ·exact A7o hs hm
 ·exact A7p hs hm
def D8 (c:UInt8) (s:RS) (m:MgS):Bool×MgS×RS:=if c=112∧¬(Bi s).1.length=(Bm s).1.length then (false,m,(Bm s).2) else (true,(B1 c s m).1,(B1 c s m).2)
theorem A8c {X:Nat→Prop} {w:World} {s:RS} {m:MgS} {p:Nat} {c:UInt8} (hs:s.Ok X w) (hm:m.In p) (hp:p≤1000) (hc:c∈H4):RdM c s (D8 c s m).2.2 m (D8 c s m).2.1 (D8 c s m).1 X w:=by
 unfold D8
 by_cases h:c=112
 ·subst h
  have:=A7s hs hm hp
  by_cases hl:(Bi s).1.length=(Bm s).1.length
  ·rw[if_neg (fun e=>e.2 hl)]
   rw[if_pos hl,decide_eq_true hl] at this
   rw[A7d]
   exact this
  ·rw[if_pos ⟨rfl,hl⟩]
   rw[if_neg hl,decide_eq_false hl] at this
   exact this
 ·rw[if_neg (fun e=>h e.1)]
  exact A8b hs hm hc h
theorem A8d {c:UInt8} {s:RS} {m:MgS} {A:Option Addr} {vs:List Value} (h:s.From A vs):(D8 c s m).2.2.From A vs:=by
 unfold D8
 split
 ·exact A71 h
 ·exact A70 h
theorem A8e {c:UInt8} {s:RS} {m:MgS} {p:Nat} (h:m.In p):(D8 c s m).2.1.In (p+64):=by
 unfold D8
 split
 ·exact⟨h.sm,h.ids,h.ns,by have:=h.ps;show m.ps.length≤p+64;omega,h.xs⟩
 ·exact A63 h
theorem A8f (c:UInt8) (f:List UInt8) (m:MgS) (s:RS):Ga (c::f) m s.rs=if (D8 c s m).1=true then Ga f (D8 c s m).2.1 (D8 c s m).2.2.rs else none:=by
 rw[A7y,A61]
 unfold D8
 by_cases h:c=112∧¬(Bi s).1.length=(Bm s).1.length
 ·rw[if_pos h,if_pos h,if_neg (show ¬(false=true) from Bool.false_ne_true)]
 ·rw[if_neg h,if_neg h,if_pos rfl]
attribute [local irreducible] Af Ad Av Bh Bf A6 Aw A9
attribute [local irreducible] mgO mgA wiM B6 may chI okV Fi Be numS Dd Do Dn Bi Bm F3 Ah Cc D8 Ga
section
set_option maxRecDepth 100000 in
set_option maxHeartbeats 4000000 in
theorem Adl (l:List UInt8) (A:Option Addr) (cp:Nat) (w:World) (hl:l.length≤10000000) (hcp:l.length≤cp) (hR:RdV w w.heap.size A (l.map vU8)):
  Calls Tryd.prog 41 (List.map (Sv.val []) [.x (.a (.v (.slice A l.length cp)))]).toArray w fun e w'=>∃γ1,e=.returned ((Nk (Ep l)).val γ1)∧Sat w No γ1 (Nl (Ep l)) w':=by
 have ob:=fun (m:MgS) a b c d n=>Dx m a b c d n
 have zb:=fun (m:MgR) n=>Co m n
 simp only[At.bnd] at ob zb
 obtain⟨D,hD⟩:∃D,D=Ep l:=⟨_,rfl⟩
 rw[←hD]
 refine Cy (n:=38) Tryd.func41 rfl Tryd.ntmps41 _ (Sat.init w No) (by simp) (Nk D) (Nl D) ?_
 simp (maxSteps:=10^6) only[Aq,Cv,B4,push_cast,↓reduceIte,reduceCtorEq,Nat.reduceLT]
 (repeat (refine And.intro (by first|omega|decide) ?_))
 refine Bk rfl Azb rfl (A5s l hl (by simp (maxSteps:=10^6) only[zb,push_cast]) (Dq hR _ _ (by simp) hcp)) (Aa rfl) (fun _=>by simp (maxSteps:=10^6) only[zb,push_cast,Nat.reduceLT]) ?_
 simp (maxSteps:=10^6) only[zb,Aq,Cv,B4,push_cast,↓reduceIte,Nat.reduceEqDiff,Nat.reduceLT,Nat.reduceAdd]
 (repeat (refine And.intro (by first|omega|decide) ?_))
 refine A01 (by simp (maxSteps:=10^6) only[zb,push_cast,Nat.reduceLT,Nat.reduceAdd]) ?_
 refine A00 2 4 (vs:=l.map vU8) rfl (fun _=>rfl) rfl (by decide) fun A1 c1 hc1 hm1=>?_
 rw[List.length_map] at hc1
 obtain⟨Fs,hFs⟩:∃Fs:List Fct,Fs=[⟨.slice A1 l.length c1,l.length,l.map vU8⟩]:=⟨_,rfl⟩
 have m1:(⟨.slice A1 l.length c1,l.length,l.map vU8⟩:Fct)∈Fs:=by rw[hFs];exact List.mem_cons_self ..
 obtain⟨s0,hs0⟩:∃s0:RS,s0=⟨A1,c1,l,false⟩:=⟨_,rfl⟩
 have hfr:s0.From A1 (l.map vU8):=by rw[hs0];exact RS.From.start hc1 hl
 simp (maxSteps:=10^6) only[A72,List.nil_append,List.length_map,push_cast,↓reduceIte]
 refine A38 [0,1,3,4] (s':=⟨[(10,.x (.a (.p 1 0))),(5,.x (.a (.p 2 0))),(4,.x (.a (.p 1 0))),(3,.x (.a (.v .nilIface))),(2,.x (.a (.p 0 0)))],[.blk 89 (.c (mgA zeroR)),.blk 132 (.c [.v (.slice s0.A s0.l.length s0.c),.v (.bool s0.bad)]),.blk 89 (.c (mgA zeroR)),.abs (fctRep Fs)]⟩) (by rw[hFs,hs0];simp (maxSteps:=10^6) only[zb,↓Ak,push_cast,↓reduceIte,reduceCtorEq,Nat.reduceEqDiff,Nat.reduceLT,Nat.reduceAdd]) ?_
 obtain⟨q,hq⟩:∃q,q=numS 255 s0:=⟨_,rfl⟩
 have hqr:=Pi 255 s0
 rw[←hq,show s0.rs=(l,false) by rw[hs0];rfl] at hqr
 have hRn:∀X w,s0.Ok X w→RdG 11 [.x (.a (.v (.int .u64 255)))] (.x (.a (.v (vU64 q.1)))) s0 q.2.2 [] X w:=fun X w h=>by rw[hq];exact Lz 255 h
 have hfq:q.2.2.From A1 (l.map vU8):=by rw[hq];exact hfr.num 255
 refine Bk rfl Lf rfl (Gz (k0:=1) (s:=s0) (args:=[.x (.a (.v (.int .u64 255)))]) (by simp (maxSteps:=10^6) only[zb,push_cast,Nat.reduceAdd]) rfl (by simp only[push_cast]) (by simp only[push_cast]) (fun _ _=>rfl) (hfr.far (k:=3) rfl m1 (by decide)) hRn) (Aa rfl) (fun _=>by simp (maxSteps:=10^6) only[zb,push_cast,Nat.reduceLT,Nat.reduceAdd]) ?_
 obtain⟨k,hk⟩:∃k,k=q.1.toUInt8:=⟨_,rfl⟩
 have h8:=hk.symm
 have zs:=Adk k
 obtain⟨z0,_⟩:=Dw (m:={zeroR with k:=k}) rfl
 obtain⟨a1,a2,a3,a4⟩:=A7v k
 have gm:=A7u k
 obtain⟨mz,hmz⟩:∃mz:MgR,mz={zeroR with k:=k}:=⟨_,rfl⟩
 have mzl:(mgA mz).length=43:=by rw[hmz];exact Cj rfl
 have mzk:mz.k=k:=by rw[hmz]
 rw[←hmz] at zs z0 a1 a2 a3 a4 gm
 simp (maxSteps:=10^6) only[↓Ak,B5,h8,zs,z0,mzl,mzk,undef,push_cast,↓reduceIte,reduceCtorEq,Nat.reduceEqDiff,Nat.reduceLT,Nat.reduceAdd]
 (repeat (refine And.intro (by first|omega|decide) ?_))
 refine A8 rfl J8 rfl (Ke k) (Aa rfl) ?_
 simp (maxSteps:=10^6) only[zb,push_cast,↓reduceIte,Nat.reduceLT,Nat.reduceAdd]
 (repeat (refine And.intro (by first|omega|decide) ?_))
 refine Mz 2 38 89 3 _ (.i64 []) rfl a1 rfl trivial (by simp (maxSteps:=10^6) only[zb,push_cast,Nat.reduceLT,Nat.reduceAdd]) ?_
 simp (maxSteps:=10^6) only[push_cast,Nat.reduceAdd]
 refine Mz 2 39 89 27 _ (.u64 []) rfl (by rw[List.getElem?_set_ne (by decide)];exact a2) rfl trivial (by
  simp (maxSteps:=10^6) only[zb,push_cast,Nat.reduceLT,Nat.reduceAdd]
  exact Nn (of_eq_true (Co mz _)) (by decide)) ?_
 simp (maxSteps:=10^6) only[push_cast,Nat.reduceAdd]
 refine Xb 2 40 89 160 2 _ (.c (pcs [])) (by decide) rfl (by rw[List.getElem?_set_ne (by decide),List.getElem?_set_ne (by decide)];exact a3) (by rw[Jd];rfl) (by
  simp (maxSteps:=10^6) only[zb,push_cast,Nat.reduceLT,Nat.reduceAdd]
  exact Nn (Nn (of_eq_true (Co mz _)) (by decide)) (by decide)) ?_
 simp (maxSteps:=10^6) only[push_cast,Nat.reduceAdd]
 refine Mz 2 41 89 136 _ (.u32 []) rfl (by rw[List.getElem?_set_ne (by decide),List.getElem?_set_ne (by decide),List.getElem?_set_ne (by decide)];exact a4) rfl trivial (by
  simp (maxSteps:=10^6) only[zb,Ag,push_cast,Nat.reduceLT,Nat.reduceAdd]
  exact Nn (Nn (Nn (of_eq_true (Co mz _)) (by decide)) (by decide)) (by decide)) ?_
 simp (maxSteps:=10^6) only[gm,push_cast,Nat.reduceAdd]
 unfold Ep at hD
 rw[←hqr] at hD
 simp only[h8] at hD
 have fle:=W4 k
 refine Bu (ι:=Nat×RS×MgS) (fun x=>⟨[(2,.x (.a (.p 0 0))),(4,.x (.a (.p 1 0))),(5,.x (.a (.p 2 0))),(17,.x (.a (.p 8 0)))],[.blk 89 (.c (mgA zeroR)),.blk 132 (.c [.v (.slice x.2.1.A x.2.1.l.length x.2.1.c),.v (.bool x.2.1.bad)]),.blk 89 (.c (mgO x.2.2 3 4 5 6)),.own 3 (.i64 x.2.2.ids),.own 27 (.u64 x.2.2.ns),.onn 160 2 (.c (pcs x.2.2.ps)),.own 136 (.u32 x.2.2.xs),.abs (fctRep Fs),.it (Ah k) x.1]⟩)
  (fun x=>x.1≤(Ah k).size∧x.2.1.From A1 (l.map vU8)∧x.2.2.In (64*x.1)∧D=Lr (Ga ((Aj k).drop x.1) x.2.2 x.2.1.rs)) (fun x=>(Ah k).size - x.1) (0,q.2.2,{Bt with k:=k}) [0,1,2,6,7,8,9,3,5] ⟨Nat.zero_le _,hfq,A7x k,hD⟩ ?_ ?_
 ·simp (maxSteps:=10^6) only[ob,zb,Bq,Ag,↓Ci,↓Ak,A73,A74,A75,A76,push_cast,↓reduceIte,reduceCtorEq,Nat.reduceEqDiff,Nat.reduceLT,Nat.reduceAdd]
 clear hD gm zs z0 a1 a2 a3 a4 mzl mzk hmz hfq hqr hRn hq h8 hk
 rintro⟨i,s,m⟩ ⟨hi,hfs,hin,hg⟩
 dsimp only at hi hfs hin hg
 have hsz:=Ji k
 have hi6:64*i≤1000:=by omega
 by_cases hlt:i < (Ah k).size
 ·have hd:=Wd hlt
  have hil:i < (Aj k).length:=by omega
  have hmem:ix (Aj k) i∈H4:=Wz (k:=k) (by
   rw[ix,List.getD_eq_getElem?_getD,List.getElem?_eq_getElem hil]
   exact List.getElem_mem hil)
  rw[Sx hlt,A8f] at hg
  generalize ix (Aj k) i=c at*
  have hcc:((c.toNat:Nat):Int)=chI c:=by unfold chI;rfl
  have hRd:∀X w,s.Ok X w→RdM c s (D8 c s m).2.2 m (D8 c s m).2.1 (D8 c s m).1 X w:=fun X w h=>A8c h hin hi6 hmem
  have hft:(D8 c s m).2.2.From A1 (l.map vU8):=A8d hfs
  have hit:(D8 c s m).2.1.In (64*i+64):=A8e hin
  obtain⟨r,hr⟩:∃r,r=D8 c s m:=⟨_,rfl⟩
  rw[←hr] at hRd hft hit hg
  clear hr
  obtain⟨b,m',t⟩:=r
  dsimp only at hRd hft hit hg
  simp (maxSteps:=10^6) only[hlt,hd,hcc,push_cast,↓reduceIte,Nat.reduceEqDiff,Nat.reduceLT,Nat.reduceAdd]
  (repeat (refine And.intro (by first|omega|decide) ?_))
  refine Bk rfl Azl rfl (A7w (i:=i+1) hfs m1 hRd) (Aa rfl) (fun _=>by simp (maxSteps:=10^6) only[ob,zb,Ag,push_cast,Nat.reduceLT,Nat.reduceAdd]) ?_
  cases b with
  |false=>
   rw[if_neg (show ¬(false=true) from Bool.false_ne_true),A77] at hg
   simp (maxSteps:=10^6) only[Ni,Bq,↓Ci,↓Ak,Aq,Cv,B4,B5,hg,Nk,Nl,undef,push_cast,↓reduceIte,reduceCtorEq,Nat.reduceEqDiff,Nat.reduceLT,Nat.reduceAdd]
   refine⟨of_eq_true (C1 _ _),Bp [] ?_⟩
   simp (maxSteps:=10^6) only[zb,↓Lu,push_cast,↓reduceIte]
   done
  |true=>
   rw[if_pos rfl] at hg
   simp (maxSteps:=10^6) only[Ni,Bq,↓Ci,↓Ak,push_cast,↓reduceIte,Nat.reduceEqDiff,Nat.reduceLT,Nat.reduceAdd]
   (repeat (refine And.intro (by first|omega|decide) ?_))
   refine Bd (i+1,t,m') [0,1,2,11,12,13,14,7,8] ⟨by show i+1≤_;omega,hft,hit,hg⟩ (by show (Ah k).size - (i+1) < (Ah k).size - i;omega) ?_
   simp (maxSteps:=10^6) only[ob,zb,Bq,Ag,↓Ci,↓Ak,push_cast,↓reduceIte,reduceCtorEq,Nat.reduceEqDiff,Nat.reduceLT,Nat.reduceAdd]
   done
 ·obtain rfl:i=(Ah k).size:=by omega
  rw[List.drop_of_length_le (by omega),A7z,A79] at hg
  have hT:=M9 1
  have hF:=Kc 1
  have ol:∀a b c d,(mgO m a b c d).length=43:=fun a b c d=>Eu hin.sm
  simp (maxSteps:=10^6) only[hlt,push_cast,↓reduceIte,Nat.reduceEqDiff,Nat.reduceLT,Nat.reduceAdd]
  (repeat (refine And.intro (by first|omega|decide) ?_))
  refine A8 rfl Aza rfl (A8a (k0:=1) (kf:=7) (s:=s) hfs rfl rfl m1) (Aa rfl) ?_
  by_cases hd:s.bad=false∧s.l=[]
  ·have hdT:(s.bad=false∧s.l=[])=True:=eq_true hd
   simp (maxSteps:=10^6) only[ol,hdT,push_cast,↓reduceIte,Nat.reduceEqDiff,Nat.reduceLT,Nat.reduceAdd]
   (repeat (refine And.intro (by first|omega|decide) ?_))
   refine A8 rfl Li rfl (Lw (Pt (hin.few (by omega)) rfl rfl rfl rfl)) (Aa rfl) ?_
   cases hc:Cc m with
   |true=>
    rw[if_pos ⟨hd,hc⟩] at hg
    simp (maxSteps:=10^6) only[ol,B5,hT,hg,Nk,Nl,undef,push_cast,↓reduceIte,Nat.reduceEqDiff,Nat.reduceLT,Nat.reduceAdd]
    refine⟨cast (Nh m 3 4 5 6 _).symm ⟨rfl,rfl,rfl,rfl⟩,?_⟩
    refine Bp [3,4,5,6] ?_
    simp (maxSteps:=10^6) only[ob,Bq,Ag,↓Adf,push_cast,↓reduceIte,Nat.reduceEqDiff,Nat.reduceLT,Nat.reduceAdd]
    done
   |false=>
    rw[if_neg (fun x=>Bool.false_ne_true (hc.symm.trans x.2))] at hg
    simp (maxSteps:=10^6) only[Aq,Cv,B4,B5,hF,hg,Nk,Nl,undef,push_cast,↓reduceIte,reduceCtorEq,Nat.reduceEqDiff,Nat.reduceLT,Nat.reduceAdd]
    refine⟨of_eq_true (C1 _ _),Bp [] ?_⟩
    simp (maxSteps:=10^6) only[zb,↓Lu,push_cast,↓reduceIte]
    done
  ·have hdF:(s.bad=false∧s.l=[])=False:=eq_false hd
   rw[if_neg (fun x=>hd x.1)] at hg
   simp (maxSteps:=10^6) only[Aq,Cv,B4,B5,hdF,hg,Nk,Nl,undef,push_cast,↓reduceIte,reduceCtorEq,Nat.reduceEqDiff,Nat.reduceLT,Nat.reduceAdd]
   refine⟨of_eq_true (C1 _ _),Bp [] ?_⟩
   simp (maxSteps:=10^6) only[zb,↓Lu,push_cast,↓reduceIte]
   done
theorem Xc {w0:World} {hp:List Res} {sv:Sv} {l:List UInt8} (hl:l.length≤10000000) (hD:Ep l=none) (h:Cx w0 No hp sv (l.map vU8)) (hbr:∀r∈hp,Res.bnd hp.length r):
  Ad Tryd.prog w0 No 41 [sv] hp (.t [.g (mgA zeroR),.a (.v (.iface 137 (.int .i64 3)))]) hp:=by
 have:=My (P:=Tryd.prog) (w0:=w0) (ow:=No) (f:=41) (svs:=[sv]) (hp:=hp) (sv1:=.t [.g (mgA zeroR),.a (.v (.iface 137 (.int .i64 3)))]) (hp1:=[]) [] hbr (fun r hr=>by cases hr)
  (fun x hx=>by
   rcases List.mem_cons.1 hx with rfl|hx
   ·exact of_eq_true (A2l zeroR _)
   ·rw[List.mem_singleton.1 hx];trivial) fun γ w hS=>⟨No,fun b h=>h.elim,by
   obtain⟨A,c,e1,b1,r1⟩:=h γ w hS
   rw[List.length_map] at e1 b1
   have:=Adl l A c w hl b1 r1
   rw[hD] at this
   rw[show List.map (Sv.val γ) [sv]=List.map (Sv.val []) [.x (.a (.v (.slice A l.length c)))] from by simp only[List.map_cons,List.map_nil,e1];rfl]
   exact this⟩
 have e:Sv.ren (A7 hp.length ([]:List Res).length) (.t [.g (mgA zeroR),.a (.v (.iface 137 (.int .i64 3)))])=.t [.g (mgA zeroR),.a (.v (.iface 137 (.int .i64 3)))]:=by
  show Sv.t [Sc.ren _ (.g (mgA zeroR)),_]=_
  rw[Lu]
  rfl
 rw[e,show goneAll [] hp++List.map (Res.ren (A7 hp.length ([]:List Res).length)) []=hp from List.append_nil hp] at this
 exact this
theorem Td {w0:World} {hp:List Res} {sv:Sv} {l:List UInt8} {m:MgS} (hl:l.length≤10000000) (hD:Ep l=some m) (h:Cx w0 No hp sv (l.map vU8)) (hbr:∀r∈hp,Res.bnd hp.length r):
  Ad Tryd.prog w0 No 41 [sv] hp (.t [.g (mgO m hp.length (hp.length+1) (hp.length+2) (hp.length+3)),.a (.v .nilIface)]) (hp++[.own 3 (.i64 m.ids),.own 27 (.u64 m.ns),.onn 160 2 (.c (pcs m.ps)),.own 136 (.u32 m.xs)]):=by
 have ob:=fun (m:MgS) a b c d n=>Dx m a b c d n
 have zb:=fun (m:MgR) n=>Co m n
 simp only[At.bnd] at ob zb
 have:=My (P:=Tryd.prog) (w0:=w0) (ow:=No) (f:=41) (svs:=[sv]) (hp:=hp) (sv1:=.t [.g (mgO m 0 1 2 3),.a (.v .nilIface)]) (hp1:=[.own 3 (.i64 m.ids),.own 27 (.u64 m.ns),.onn 160 2 (.c (pcs m.ps)),.own 136 (.u32 m.xs)]) [] hbr (by simp (maxSteps:=10^6) only[Ag,push_cast,Nat.reduceAdd])
  (fun x hx=>by
   rcases List.mem_cons.1 hx with rfl|hx
   ·rw[A6r];show 0 < 4∧1 < 4∧2 < 4∧3 < 4;decide
   ·rw[List.mem_singleton.1 hx];trivial) fun γ w hS=>⟨No,fun b h=>h.elim,by
   obtain⟨A,c,e1,b1,r1⟩:=h γ w hS
   rw[List.length_map] at e1 b1
   have:=Adl l A c w hl b1 r1
   rw[hD] at this
   rw[show List.map (Sv.val γ) [sv]=List.map (Sv.val []) [.x (.a (.v (.slice A l.length c)))] from by simp only[List.map_cons,List.map_nil,e1];rfl]
   exact this⟩
 have r0:=fun i (h:i < 4)=>Ht (a:=hp.length) (n:=4) h
 have e:Sv.ren (A7 hp.length 4) (.t [.g (mgO m 0 1 2 3),.a (.v .nilIface)])=.t [.g (mgO m hp.length (hp.length+1) (hp.length+2) (hp.length+3)),.a (.v .nilIface)]:=by
  show Sv.t [Sc.ren _ (.g (mgO m 0 1 2 3)),_]=_
  rw[Adf,r0 0 (by decide),r0 1 (by decide),r0 2 (by decide),r0 3 (by decide)]
  rfl
 have e2:goneAll [] hp++List.map (Res.ren (A7 hp.length 4)) [.own 3 (.i64 m.ids),.own 27 (.u64 m.ns),.onn 160 2 (.c (pcs m.ps)),.own 136 (.u32 m.xs)]=hp++[.own 3 (.i64 m.ids),.own 27 (.u64 m.ns),.onn 160 2 (.c (pcs m.ps)),.own 136 (.u32 m.xs)]:=by
  show hp++[_,_,Res.onn _ 2 (.c ((pcs m.ps).map _)),_]=_
  rw[Bq]
  rfl
 rw[show ([.own 3 (.i64 m.ids),.own 27 (.u64 m.ns),.onn 160 2 (.c (pcs m.ps)),.own 136 (.u32 m.xs)]:List Res).length=4 from rfl,e,e2] at this
 exact this
end
end Go.Proofs.YtiaeollemmkclaaDoor
