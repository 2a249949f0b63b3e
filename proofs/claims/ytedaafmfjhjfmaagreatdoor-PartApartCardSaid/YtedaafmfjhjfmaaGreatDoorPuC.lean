import Derived.Test.YtedaafmfjhjfmaaGreatDoorPtA
import Derived.Test.YtedaafmfjhjfmaaGreatDoorTs3
import Derived.Test.YtedaafmfjhjfmaaGreatDoorPuA
import Derived.Test.YtedaafmfjhjfmaaGreatDoorVl
import Derived.Test.YtedaafmfjhjfmaaGreatDoorTs29
/- Law 29: PartApart. -/
namespace Go.Proofs.YtedaafmfjhjfmaaGreatDoor
open Go.RowKit
set_option linter.unusedSimpArgs false
set_option linter.unusedVariables false
theorem A7g (c:CfS) (p:Int):PaInv (Sms.new c p) [] (List.replicate c.dim.toNat 0) 0:=
 ⟨⟨fun t ht=>(by cases ht),List.Pairwise.nil⟩,rfl,fun x=>⟨fun h=>(by cases h),fun⟨t,ht,_⟩=>(by cases ht)⟩,rfl,rfl,List.length_replicate ..⟩
theorem A7h {s:Sms} {inn:List Int} {sum:List UInt32} {many:Nat} (h:PaInv s inn sum many) {m:MgS} (h0:¬s.takeE m=0):PaInv (s.take m) inn sum many:=by
 obtain⟨e1,e2,e3,e4⟩:=Pz s m
 rw[if_neg h0] at e4
 refine⟨Zi h.inv m,h.asc,fun x=>by rw[e4];exact h.mem x,?_,by rw[e4];exact h.many,by rw[e3];exact h.len⟩
 rw[h.eq]
 unfold Mr
 rw[e3,e4]
structure PX where
 i:Nat
 r:SmR
 F:List Fct
 inn:SlV Int
 sum:SlV UInt32
 many:Nat
structure PXInv (n:Nat) (c:CfR) (p:Int) (x:PX):Prop where
 i:x.i≤n
 few:x.many≤x.i∧x.i≤30
 ok:SmOk x.F x.r
 inn:SlF x.F x.inn (x.inn.l.map (Value.int .i64))
 sum:SlF x.F x.sum (x.sum.l.map Aj)
 pa:PaInv x.r.s x.inn.l x.sum.l x.many
 spots:x.r.s.spots=(Sms.new c.cf p).spots
 place:x.r.s.place=p
 dim:x.r.dim=c.dim
theorem A7i {P:Program} {w0:World} {ow:Nat→Prop} {n:Nat} {R:Prop} {ops rest:List Oper} {o:Oper} {K:S→Prop} {X:Type} (I:X→Prop) (F:X→S) (h:(∀x,I x→Ah P w0 ow n ops o rest (F x) K)→R) (k:∀x,I x→Ah P w0 ow n ops o rest (F x) K):R:=h k
theorem Ace {r:SmR} {t:Int×MgR} (h:t∈r.taken):(t.1,t.2.mg)∈r.s.taken:=by
 show (t.1,t.2.mg)∈Bk MgR.mg r.taken
 exact List.mem_map.2 ⟨t,h,rfl⟩
theorem A7j {s:Sms} {q p:Int} (h:s.und q p=true):0≤q∧q < s.spots.length:=by
 unfold Sms.und at h
 rw[Bool.and_eq_true,decide_eq_true_eq] at h
 exact h.1
theorem PXInv.keys {n:Nat} {c:CfR} {p:Int} {x:PX} (h:PXInv n c p x):Lj x.r.taken∧x.r.taken.length≤30:=by
 have e:x.r.s.taken=Bk MgR.mg x.r.taken:=rfl
 have hl:x.r.s.taken.length=x.r.taken.length:=List.length_map ..
 have hm:=h.pa.many
 have hf:=h.few
 refine⟨⟨?_,fun q hq=>?_,by omega⟩,by omega⟩
 ·have:=Zj h.pa.inv
  rw[e] at this
  have e2:(Bk MgR.mg x.r.taken).map (·.1)=x.r.taken.map (·.1):=by
   unfold Bk
   rw[List.map_map]
   rfl
  rw[e2] at this
  exact this
 ·obtain⟨h1,h2⟩:=h.pa.inv.ok _ (Ace hq)
  have hu:=A7j (K2 h1).und
  have h2:q.2.mg.pl=q.1:=h2
  have h3:=h.ok.few.1
  have h4:x.r.s.spots.length=x.r.spots.l.length:=List.length_map ..
  rw[h2,h4] at hu
  omega
theorem PXInv.rows {n:Nat} {c:CfR} {p:Int} {x:PX} (h:PXInv n c p x) {d:Nat} (hd:c.dim=d):∀t∈x.r.taken,t.2.xs.l.length=d∧t.2.ns.l.length % 2=0∧0 < t.2.ps.l.length:=fun t ht=>by
 have km:=K2 (h.pa.inv.ok _ (Ace ht)).1
 have h1:(t.2.xs.l.length:Int)=x.r.dim:=km.len
 refine⟨by rw[h.dim,hd] at h1;omega,km.ev,?_⟩
 have h2:=km.some_
 obtain⟨a,ha⟩:=List.exists_mem_of_ne_nil _ h2
 have h3:=km.sub a ha
 have h3:a∈t.2.ps.l.map (·.1):=h3
 have:=List.length_pos_of_mem h3
 rwa [List.length_map] at this
theorem A7k (s:Sms):s.from_.length=s.taken.length:=by
 have:=(P2 s).length_eq
 rwa [List.length_map] at this
theorem A7l {w0:World} {hp:List Res} {sv:Sv} {cf:CfS} (p:Int) (h:Iw w0 hp sv cf) (hn:Gi cf p=false):Ae Tryz.prog w0 No 21 [sv,.x (.a (.v (.int .i64 p)))] hp (.t [.a (.v (.pointer none)),.a (.v (erV 1))]) hp:=Ba fun γ w hS=>by
 obtain⟨a,e1,h1,rfl⟩:=h γ w hS
 show Calls _ _ #[sv.val γ,_] w _
 rw[e1]
 exact A5e p h1 hn
theorem A7m {a b:List Int} (h:Bh a b=[]):(Bh a b).length=0:=by rw[h];rfl
attribute [local irreducible] Ad Ae Ah Au Am Ap Ai Ao
attribute [local irreducible] B4 okV Aw Bh erV Cm cfF tcF isP ofP abF Df Bn B5 H7 I2 Dq someR Ms Hq Sms.from_
set_option maxRecDepth 100000 in
set_option maxHeartbeats 4000000 in
theorem A7n (c:CfR) (p:Int) (A:Option Addr) (cap:Nat) (l:List MgR) (w:World) (hgd:Handle w) (hc:c.Wide w) (hcap:l.length≤cap) (hR:RdV w w.heap.size A (l.flatMap mgV)) (hl:∀m∈l,m.Wide w):
  Calls Tryz.prog 4 #[.agg (cfV c).toArray,.int .i64 p,.slice A l.length cap] w fun e w'=>e=.returned (.bool true)∧Below w.heap.size w w':=by
 refine Bb (n:=140) Tryz.func4 rfl Tryz.ntmps4 [.x (.g [.v (.int .i64 c.dim),.v (.slice c.ps.A c.ps.l.length c.ps.c),.v (.slice c.gs.A c.gs.l.length c.gs.c),.v (.int .i64 c.least),.v (.int .i64 c.term)]),.x (.a (.v (.int .i64 p))),.x (.a (.v (.slice A l.length cap)))] (by simp) (.x (.a (.v (.bool true)))) (fun _=>rfl) ?_
 simp (maxSteps:=10^6) only[push_cast,↓reduceIte,Nat.reduceEqDiff,Nat.reduceLT,Nat.reduceAdd]
 (repeat (refine And.intro (by first|omega|decide) ?_))
 refine Ar rfl Avw rfl (A7f c hc) (Af rfl) ?_
 by_cases hb:H7 c.cf=true
 ·rw[hb]
  simp (maxSteps:=10^6) only[push_cast,↓reduceIte]
  (repeat (refine And.intro (by first|omega|decide) ?_))
  refine Ar rfl Tf rfl (U5 hgd) (Af rfl) ?_
  simp (maxSteps:=10^6) only[push_cast,↓reduceIte,Nat.reduceLT]
  done
 have hb:H7 c.cf=false:=by simpa using hb
 rw[hb]
 obtain⟨bp,bg,bi⟩:=A7b hb
 simp (maxSteps:=10^6) only[push_cast,↓reduceIte,Nat.reduceEqDiff,Nat.reduceLT,Nat.reduceAdd]
 (repeat (refine And.intro (by first|omega|decide) ?_))
 refine Jr rfl Avx rfl (A7d c hc (by simp (maxSteps:=10^6) only[push_cast])) (Af rfl) (fun _=>by simp (maxSteps:=10^6) only[push_cast,Nat.reduceLT]) ?_
 simp (maxSteps:=10^6) only[push_cast,↓reduceIte,reduceCtorEq,Nat.reduceEqDiff,Nat.reduceLT,Nat.reduceAdd]
 (repeat (refine And.intro (by first|omega|decide) ?_))
 have hcf:∀{hp:List Res},hp[1]?=some (.onn 98 3 (.c (vC (c.ps.l.flatMap plV))))→hp[2]?=some (.abs (Ep (c.gs.l.map GrR.gr)))→Iw w hp (.x (.g [.v (.int .i64 c.dim),.o 1,.o 2,.v (.int .i64 c.least),.v (.int .i64 c.term)])) c.cf:=fun h1 h2=>A7a h1 h2 (by have:c.ps.l.length≤30:=bp;omega) (by have:(c.gs.l.map GrR.gr).length≤30:=bg;omega) (fun g hg=>by have:=bi g hg;omega)
 have ev:=Uk (n:=1) (by decide)
 by_cases hn:Gi c.cf p=true
 case neg=>
  have hn:Gi c.cf p=false:=by simpa using hn
  refine Ar rfl Tg rfl (A7l p (hcf rfl rfl) hn) (Af rfl) ?_
  simp (maxSteps:=10^6) only[ev,undef,push_cast,↓reduceIte,Nat.reduceEqDiff,Nat.reduceLT,Nat.reduceAdd]
  (repeat (refine And.intro (by first|omega|decide) ?_))
  refine Ar rfl Tf rfl (U5 hgd) (Af rfl) ?_
  simp (maxSteps:=10^6) only[push_cast,↓reduceIte,Nat.reduceLT,Nat.reduceAdd]
  done
 refine Z9 (ι:=Nat×SmR×List Fct) (fun x=>x.2.1.s=Sms.new c.cf p∧x.2.1.heard=[]∧x.2.1.taken=[]∧SmOk x.2.2 x.2.1) (fun _=>.t [.a (.p 3 0),.a (.v .nilIface)]) (fun x=>[.blk 25 (.c [.v (.int .i64 c.dim),.v (.slice c.ps.A c.ps.l.length c.ps.c),.v (.slice c.gs.A c.gs.l.length c.gs.c),.v (.int .i64 c.least),.v (.int .i64 c.term)]),.onn 98 3 (.c (vC (c.ps.l.flatMap plV))),.abs (Ep (c.gs.l.map GrR.gr))]++(smB x.1 x.2.1++[Res.abs (Ac x.2.2)]).map (Res.ren (B0 3 4))) rfl Tg rfl (fun γ' w' hS'=>Ab2 (hp:=[.blk 25 (.c [.v (.int .i64 c.dim),.v (.slice c.ps.A c.ps.l.length c.ps.c),.v (.slice c.gs.A c.gs.l.length c.gs.c),.v (.int .i64 c.least),.v (.int .i64 c.term)]),.onn 98 3 (.c (vC (c.ps.l.flatMap plV))),.abs (Ep (c.gs.l.map GrR.gr))]) p (hcf rfl rfl) hn (by omega) (fun g hg=>by have:=bi g hg;omega) (by simp (maxSteps:=10^6) only[Co,push_cast,Nat.reduceAdd]) γ' w' hS') (Af rfl) (by simp (maxSteps:=10^6) only[Co,push_cast,Nat.reduceLT,Nat.reduceAdd]) ?_
 rintro⟨g,r,F2⟩ ⟨s1,s2,s3,s4⟩
 dsimp only at s1 s2 s3 s4
 have hcfT:cfF c.cf=true∧0≤p∧p < c.cf.places.length:=by
  unfold Gi at hn
  rw[Bool.and_eq_true,decide_eq_true_eq] at hn
  exact hn
 have hdim:1≤c.dim∧c.dim≤32:=by
  have:=hcfT.1
  unfold cfF at this
  simp only[Bool.and_eq_true] at this
  exact Mn.1 this.1.1.1.1
 have cd0:¬c.dim < 0:=by omega
 have cd1:¬32 < c.dim:=by omega
 unfold smB smA
 simp (maxSteps:=10^6) only[B0,rn,cd0,cd1,Co,undef,↓List.forall_mem_cons,push_cast,↓Int.cast_ofNat_Int,Int.cast_ofNat_Int,↓reduceIte,reduceCtorEq,Nat.reduceEqDiff,Nat.reduceLT,Nat.reduceAdd]
 refine⟨⟨by omega,by omega,by omega,by omega⟩,?_⟩
 refine Axx 7 6 (vs:=(List.replicate c.dim.toNat (0:UInt32)).map Aj) rfl (fun _=>rfl) rfl (by decide) fun A0 cap0 _ _=>?_
 rw[List.length_map,List.length_replicate]
 simp (maxSteps:=10^6) only[Fi,Gx,Res.sub,Cont.sub,Sv.sub,Sc.sub,At.sub,Lc,Ld,Qk,push_cast,↓reduceIte,Nat.reduceEqDiff]
 have hx0:PXInv l.length c p ⟨0,r,F2++[⟨.slice A0 c.dim.toNat cap0,c.dim.toNat,(List.replicate c.dim.toNat (0:UInt32)).map Aj⟩],⟨none,0,[]⟩,⟨A0,cap0,List.replicate c.dim.toNat 0⟩,0⟩:=⟨Nat.zero_le _,⟨Nat.le_refl _,Nat.zero_le _⟩,s4.more fun f hf=>List.mem_append_left _ hf,.inl rfl,.inr (List.mem_append_right _ (by
   show (⟨.slice A0 (List.replicate c.dim.toNat (0:UInt32)).length cap0,(List.replicate c.dim.toNat (0:UInt32)).length,_⟩:Fct)∈_
   rw[List.length_replicate]
   exact List.mem_singleton.2 rfl)),by rw[s1];exact A7g c.cf p,by rw[s1],by rw[s1];rfl,by
   have:r.s.dim=c.cf.dim:=by rw[s1];rfl
   exact this⟩
 have e10:(⟨A0,cap0,List.replicate c.dim.toNat 0⟩:SlV UInt32).val=.slice A0 c.dim.toNat cap0:=by
  show Value.slice A0 (List.replicate c.dim.toNat (0:UInt32)).length cap0=_
  rw[List.length_replicate]
 have F:=FLw.of (ow:=No) (fun x hx=>Rl (hl x hx).s) (by decide) ⟨hR,fun _ _ _ h=>h⟩
 refine Bc (ι:=PX) (fun x=>⟨[(1,.x (.a (.v (.int .i64 p)))),(2,.x (.a (.v (.slice A l.length cap)))),(3,.x (.a (.p 3 0))),(7,.x (.a (.p 0 0))),(9,.x (.a (.v x.inn.val))),(10,.x (.a (.v x.sum.val))),(11,.x (.a (.v (.int .i64 (x.many:Nat))))),(12,.x (.a (.v (.int .i64 (x.i:Nat)))))],[.pin g 120 (.c [.v (.int .i64 x.r.place),.v (.int .i64 x.r.dim),.v x.r.spots.val,.o 1,.o 2]),.mp .i64 (iE x.r.heard),.mp .i64 (mgE x.r.taken),.blk 25 (.c [.v (.int .i64 c.dim),.v (.slice c.ps.A c.ps.l.length c.ps.c),.v (.slice c.gs.A c.gs.l.length c.gs.c),.v (.int .i64 c.least),.v (.int .i64 c.term)]),.abs (Ac x.F)]⟩) (PXInv l.length c p) (fun x=>l.length - x.i) ⟨0,r,F2++[⟨.slice A0 c.dim.toNat cap0,c.dim.toNat,(List.replicate c.dim.toNat (0:UInt32)).map Aj⟩],⟨none,0,[]⟩,⟨A0,cap0,List.replicate c.dim.toNat 0⟩,0⟩ [3,4,5,0,6] hx0 ?_ ?_
 ·have e9:(⟨none,0,[]⟩:SlV Int).val=.slice none 0 0:=rfl
  simp (maxSteps:=10^6) only[e10,e9,↓List.forall_mem_cons,push_cast,↓Int.cast_ofNat_Int,Int.cast_ofNat_Int,↓reduceIte,reduceCtorEq,Nat.reduceEqDiff,Nat.reduceLT,Nat.reduceAdd]
 clear hx0 e10 s1 s2 s3 s4
 rintro⟨i,r,Fs,inn,sum,many⟩ hx
 have hxi:i≤l.length:=hx.i
 have hok:=hx.ok
 have hpa:=hx.pa
 have hin:=hx.inn
 have hsm:=hx.sum
 have hfw:=hx.few
 dsimp only at hok hpa hin hsm hfw ⊢
 have vi:inn.val=.slice inn.A inn.l.length inn.c:=rfl
 have vs:sum.val=.slice sum.A sum.l.length sum.c:=rfl
 have innl:inn.l.length≤64:=by
  have:=A35 hpa.asc
  exact this
 apply A7i (P:=Tryz.prog) (w0:=w) (ow:=No) (n:=140) (X:=Unit) (fun _=>True) (fun _=>⟨[(109,.x (.a (.p 0 0))),(1,.x (.a (.v (.int .i64 p)))),(3,.x (.a (.p 3 0))),(7,.x (.a (.p 0 0))),(9,.x (.a (.v inn.val))),(10,.x (.a (.v sum.val))),(11,.x (.a (.v (.int .i64 (many:Nat)))))],[.pin g 120 (.c [.v (.int .i64 r.place),.v (.int .i64 r.dim),.v r.spots.val,.o 1,.o 2]),.mp .i64 (iE r.heard),.mp .i64 (mgE r.taken),.blk 25 (.c [.v (.int .i64 c.dim),.v (.slice c.ps.A c.ps.l.length c.ps.c),.v (.slice c.gs.A c.gs.l.length c.gs.c),.v (.int .i64 c.least),.v (.int .i64 c.term)]),.abs (Ac Fs)]⟩)
 ·intro next
  by_cases hlt:(i:Int) < l.length
  case neg=>
   simp (maxSteps:=10^6) only[hlt,undef,push_cast,↓reduceIte,Nat.reduceEqDiff,Nat.reduceLT,Nat.reduceAdd]
   (repeat (refine And.intro (by first|omega|decide) ?_))
   refine Tp [109,1,3,7,9,10,11] ?_
   simp (maxSteps:=10^6) only[push_cast,↓reduceIte,Nat.reduceEqDiff]
   exact next () trivial
  by_cases h30:(i:Int) < 30
  case neg=>
   simp (maxSteps:=10^6) only[hlt,h30,push_cast,↓reduceIte,Nat.reduceEqDiff,Nat.reduceLT,Nat.reduceAdd]
   (repeat (refine And.intro (by first|omega|decide) ?_))
   refine Tp [109,1,3,7,9,10,11] ?_
   simp (maxSteps:=10^6) only[push_cast,↓reduceIte,Nat.reduceEqDiff]
   exact next () trivial
  have hil:i < l.length:=by omega
  have i0:(0:Int)≤i:=by omega
  have nx:(i:Int)+1≤9223372036854775807:=by omega
  have nx0:-9223372036854775808≤(i:Int)+1:=by omega
  have hA:=F.some_ (by omega)
  have hm0:=hl _ (C4 hil)
  obtain⟨w1,w2⟩:=F.whole hil hm0.s
  obtain⟨c38,o38⟩:=F.cell i 38 (ix l i).ids.val hil (by
   unfold mgV
   rw[List.getElem?_append_right (by show 6≤38;omega),List.getElem?_append_right (by simp [hm0.s])]
   simp [hm0.s])
  obtain⟨c41,o41⟩:=F.cell i 41 (ix l i).xs.val hil (by
   unfold mgV
   rw[List.getElem?_append_right (by show 6≤41;omega),List.getElem?_append_right (by simp [hm0.s])]
   simp [hm0.s])
  have o38:=eq_true o38
  have o41:=eq_true o41
  obtain⟨m0,em0⟩:∃m0,m0=ix l i:=⟨_,rfl⟩
  rw[←em0] at hm0 w1 c38 c41
  clear em0
  have v38:m0.ids.val=.slice m0.ids.A m0.ids.l.length m0.ids.c:=rfl
  have v41:m0.xs.val=.slice m0.xs.A m0.xs.l.length m0.xs.c:=rfl
  rw[v38] at c38
  rw[v41] at c41
  simp (maxSteps:=10^6) only[hlt,h30,i0,hA,w1,w2,Bf,push_cast,↓Int.toNat_natCast,↓reduceIte,reduceCtorEq,Nat.reduceEqDiff,Nat.reduceLT,Nat.reduceAdd]
  (repeat (refine And.intro (by first|omega|decide) ?_))
  refine Ar rfl Avy rfl (A5n hm0) (Af rfl) ?_
  cases hbn:I2 m0.mg with
  |true=>
   simp (maxSteps:=10^6) only[nx,nx0,undef,push_cast,↓reduceIte,Nat.reduceEqDiff,Nat.reduceLT,Nat.reduceAdd,Int.reduceNeg]
   refine Ay (PX.mk (i+1) r Fs inn sum many) [0,1,2,3,4] (show PXInv l.length c p _ from ⟨by show i+1≤l.length;omega,⟨by show many≤i+1;omega,by show i+1≤30;omega⟩,hx.ok,hx.inn,hx.sum,hx.pa,hx.spots,hx.place,hx.dim⟩) (by show l.length - (i+1) < l.length - i;omega) ?_
   simp (maxSteps:=10^6) only[↓List.forall_mem_cons,push_cast,↓reduceIte,reduceCtorEq,Nat.reduceEqDiff,Nat.reduceLT,Nat.reduceAdd]
   done
  |false=>
  have mok:=hm0.ok hbn
  simp (maxSteps:=10^6) only[hlt,i0,hA,w1,w2,Bf,push_cast,↓Int.toNat_natCast,↓reduceIte,reduceCtorEq,Nat.reduceEqDiff,Nat.reduceLT,Nat.reduceAdd]
  (repeat (refine And.intro (by first|omega|decide) ?_))
  refine Lb (ι:=MgR×List Fct) (fun x=>x.1.mg=m0.mg∧MOk x.2 x.1) (fun x=>.x (.g (mgA x.1))) (fun x=>x.2) 4 rfl rfl Avz rfl (fun γ' w' hS'=>?_) (fun x γ=>by rw[By,By]) (Af rfl) (by simp (maxSteps:=10^6) only[↓List.forall_mem_cons,↓Bj,push_cast,Nat.reduceLT,Nat.reduceAdd]) ?_
  ·show Calls _ _ #[(Sv.x (.g (mgA m0))).val γ'] w' _
   rw[By]
   exact (A53 w' (mok.later hS')).mono fun e w'' ⟨x,γ1,h1,h2,h3⟩=>⟨x,γ1,h1,by rw[h2,By],h3⟩
  rintro⟨m,G⟩ ⟨em,km⟩
  dsimp only at em km
  have gm:=Bv km.s
  obtain⟨Fs1,eF1⟩:∃G',G'=Fs++G:=⟨_,rfl⟩
  rw[←eF1]
  have in1:∀f∈Fs,f∈Fs1:=fun f hf=>by rw[eF1];exact List.mem_append_left _ hf
  have km:MOk Fs1 m:=km.more fun f hf=>by rw[eF1];exact List.mem_append_right _ hf
  simp (maxSteps:=10^6) only[push_cast,↓reduceIte,Nat.reduceEqDiff]
  (repeat (refine And.intro (by first|omega|decide) ?_))
  refine Uh (ι:=SmR×List Fct) (A:=smB g r) (M:=[.blk 25 (.c [.v (.int .i64 c.dim),.v (.slice c.ps.A c.ps.l.length c.ps.c),.v (.slice c.gs.A c.gs.l.length c.gs.c),.v (.int .i64 c.least),.v (.int .i64 c.term)]),.abs (Ac Fs1)]) (g:=g) (t:=120) (c:=.c (smA r)) (l:=Fs1) 1 (Iz Fs1 r m.mg) (fun x=>.x (.a (.v (erV (r.s.takeE m.mg))))) (fun x=>smB g x.1) (fun x=>x.2) rfl rfl rfl (fun x _=>⟨_,rfl⟩) (fun x _=>rfl) rfl Md rfl (fun γ' w' hS' hg=>?_) (fun _ _=>rfl) (Af rfl) (Cq g r) (fun x _=>Cq g x.1) (by simp (maxSteps:=10^6) only[↓List.forall_mem_cons,↓Bj,push_cast,Nat.reduceLT,Nat.reduceAdd]) (by
   show ∀x∈_,Sv.av 3 _
   simp (maxSteps:=10^6) only[↓List.forall_mem_cons,↓Ge,push_cast,reduceCtorEq,Nat.reduceLeDiff]) (by
   show ∀x∈_,Res.av 3 _
   simp (maxSteps:=10^6) only[↓List.forall_mem_cons,push_cast]) ?_
  ·have hk:=Dp (A:=smB g r) hS' (k:=1) rfl
   have:=Aa4 r m (hS'.frontA (Cq g r)) hk (hok.more in1) (Li km hk)
   rw[Rn (hS'.frontA (Cq g r)) [.x (.g (mgA m))] (fun x hx γ γ'=>by rw[List.mem_singleton.1 hx,By,By]) γ'] at this
   show Calls _ _ #[.pointer (some ⟨nmB γ' 0,0,none⟩),(Sv.x (.g (mgA m))).val γ'] w' _
   rw[hg]
   exact this
  rintro⟨r1,H1⟩ ⟨t1,k1⟩
  dsimp only at t1 k1
  obtain⟨Fs2,eF2⟩:∃G',G'=Fs1++H1:=⟨_,rfl⟩
  rw[←eF2] at k1 ⊢
  have in2:∀f∈Fs,f∈Fs2:=fun f hf=>by rw[eF2];exact List.mem_append_left _ (in1 f hf)
  obtain⟨tp1,tp2,tp3,tp4⟩:=Pz r.s m.mg
  rw[←t1] at tp1 tp2 tp3
  have sp1:r1.s.spots=(Sms.new c.cf p).spots:=tp1.trans hx.spots
  have pl1:r1.s.place=p:=tp2.trans hx.place
  have dm1:r1.dim=c.dim:=by
   have:r1.s.dim=r.s.dim:=tp3
   have:r1.dim=r.dim:=this
   exact this.trans hx.dim
  unfold smB smA
  by_cases h0:r.s.takeE m.mg=0
  case neg=>
   have hp1:PaInv r1.s inn.l sum.l many:=by rw[t1];exact A7h hpa h0
   have ev0:=Uk h0
   simp (maxSteps:=10^6) only[ev0,nx,nx0,push_cast,↓reduceIte,Nat.reduceEqDiff,Nat.reduceLT,Nat.reduceAdd,Int.reduceNeg]
   refine Ay (PX.mk (i+1) r1 Fs2 inn sum many) [0,1,2,3,4] (show PXInv l.length c p _ from ⟨by show i+1≤l.length;omega,⟨by show many≤i+1;omega,by show i+1≤30;omega⟩,k1,hin.more in2,hsm.more in2,hp1,sp1,pl1,dm1⟩) (by show l.length - (i+1) < l.length - i;omega) ?_
   simp (maxSteps:=10^6) only[↓List.forall_mem_cons,push_cast,↓reduceIte,reduceCtorEq,Nat.reduceEqDiff,Nat.reduceLT,Nat.reduceAdd]
   done
  have ev0:erV (r.s.takeE m.mg)=.nilIface:=by rw[h0];exact Aac
  obtain⟨pa1,pa2,pa3,pa4⟩:=Ays hpa h0
  rw[←t1] at pa4
  have eids:m.mg.ids=m0.ids.l:=congrArg MgS.ids em
  have exs:m.mg.xs=m0.xs.l:=congrArg MgS.xs em
  rw[eids] at pa1 pa2 pa4
  rw[exs] at pa3 pa4
  have bl:=A7m pa1
  have idl:¬(m0.ids.l.length:Int)=0:=fun e=>pa2 (List.length_eq_zero_iff.1 (by omega))
  simp (maxSteps:=10^6) only[ev0,i0,hA,c38,o38,Bu,Bf,push_cast,↓Int.toNat_natCast,↓reduceIte,reduceCtorEq,Nat.reduceEqDiff,Nat.reduceLT,Nat.reduceAdd]
  (repeat (refine And.intro (by first|omega|decide) ?_))
  have idb:m0.ids.l.length≤100:=(Abq hbn).1
  have sh9:∀{hp:List Res} {Gs:List Fct},hp[4]?=some (.abs (Ac Gs))→(∀f∈Fs2,f∈Gs)→A6 w No hp (.x (.a (.v inn.val))) (inn.l.map (Value.int .i64)):=fun h1 h2=>J6 h1 ((hin.more in2).more h2) (fun e=>by rw[e];rfl) (List.length_map ..)
  have sh10:∀{hp:List Res} {Gs:List Fct},hp[4]?=some (.abs (Ac Gs))→(∀f∈Fs2,f∈Gs)→A6 w No hp (.x (.a (.v sum.val))) (sum.l.map Aj):=fun h1 h2=>J6 h1 ((hsm.more in2).more h2) (fun e=>by rw[e];rfl) (List.length_map ..)
  refine Dx rfl Me rfl (Mt (a:=inn.l) (b:=m0.ids.l) (by omega) (by omega) (sh9 rfl fun f hf=>hf) (Bt hm0.ids.2 _ _ (by simp) hm0.ids.1) (by simp (maxSteps:=10^6) only[↓List.forall_mem_cons,push_cast,Nat.reduceLT,Nat.reduceAdd])) (Af rfl) (by simp (maxSteps:=10^6) only[↓List.forall_mem_cons,↓Bj,push_cast,Nat.reduceLT,Nat.reduceAdd]) ?_
  rw[pa1]
  simp (maxSteps:=10^6) only[idl,i0,hA,c38,o38,Bu,Bf,List.length_nil,push_cast,↓Int.toNat_natCast,↓Int.cast_ofNat_Int,Int.cast_ofNat_Int,↓reduceIte,reduceCtorEq,Nat.reduceEqDiff,Nat.reduceLT,Nat.reduceAdd,Int.reduceLT]
  (repeat (refine And.intro (by first|omega|decide) ?_))
  refine Iy 4 (vs:=(Aw inn.l m0.ids.l).map (Value.int .i64)) rfl rfl Th rfl (Abc (a:=inn.l) (b:=m0.ids.l) (by omega) (by omega) (sh9 rfl fun f hf=>hf) (Bt hm0.ids.2 _ _ (by simp) hm0.ids.1)) (Af rfl) (by simp (maxSteps:=10^6) only[↓List.forall_mem_cons,↓Bj,push_cast,Nat.reduceLT,Nat.reduceAdd]) ?_
  intro A1 cap1 b1 _
  simp (maxSteps:=10^6) only[i0,hA,c41,o41,Bu,Bf,List.length_map,push_cast,↓Int.toNat_natCast,↓reduceIte,reduceCtorEq,Nat.reduceEqDiff,Nat.reduceLT,Nat.reduceAdd]
  (repeat (refine And.intro (by first|omega|decide) ?_))
  have sd:sum.l.length=c.dim.toNat:=by
   have h1:=hpa.len
   have h2:r.s.dim=c.dim:=hx.dim
   rw[h2] at h1
   exact h1
  have hop:E0 sum.l m0.xs.l=true:=by
   unfold E0
   rw[decide_eq_true pa3,decide_eq_true (show sum.l.length≤32 by omega)]
   rfl
  have hsum:Hz (F3 1) sum.l m0.xs.l=B9 sum.l m0.xs.l:=by
   rw[Aaq hop,A3s A3r,Aau rfl pa3.symm]
  refine Jr rfl Avu rfl (A3u (a:=sum.l) (b:=m0.xs.l) 1 (sh10 rfl fun f hf=>List.mem_append_left _ hf) (Bt hm0.xs.2 _ _ (by simp) hm0.xs.1) (by simp (maxSteps:=10^6) only[↓List.forall_mem_cons,push_cast,Nat.reduceLT,Nat.reduceAdd])) (Af rfl) (fun _=>by simp (maxSteps:=10^6) only[↓List.forall_mem_cons,↓Bj,push_cast,Nat.reduceLT,Nat.reduceAdd]) ?_
  rw[hop,hsum]
  have mx:(many:Int)+1≤9223372036854775807:=by omega
  have mx0:-9223372036854775808≤(many:Int)+1:=by omega
  simp (maxSteps:=10^6) only[nx,nx0,mx,mx0,push_cast,↓reduceIte,Nat.reduceEqDiff,Nat.reduceLT,Nat.reduceAdd,Int.reduceNeg]
  (repeat (refine And.intro (by first|omega|decide) ?_))
  refine Yg 6 4 (vs:=(B9 sum.l m0.xs.l).map Aj) rfl (fun _=>rfl) rfl (by decide) fun A2 cap2 _ _=>?_
  rw[List.length_map]
  rw[List.length_map] at b1
  simp (maxSteps:=10^6) only[Fi,Gx,Res.sub,Cont.sub,Sv.sub,Sc.sub,At.sub,Lc,Ld,Qn,push_cast,↓reduceIte,Nat.reduceEqDiff]
  have vi2:(⟨A1,cap1,Aw inn.l m0.ids.l⟩:SlV Int).val=.slice A1 (Aw inn.l m0.ids.l).length cap1:=rfl
  have vs2:(⟨A2,cap2,B9 sum.l m0.xs.l⟩:SlV UInt32).val=.slice A2 (B9 sum.l m0.xs.l).length cap2:=rfl
  refine Ay (PX.mk (i+1) r1 (Fs2++[⟨.slice A1 (Aw inn.l m0.ids.l).length cap1,(Aw inn.l m0.ids.l).length,(Aw inn.l m0.ids.l).map (Value.int .i64)⟩]++[⟨.slice A2 (B9 sum.l m0.xs.l).length cap2,(B9 sum.l m0.xs.l).length,(B9 sum.l m0.xs.l).map Aj⟩]) ⟨A1,cap1,Aw inn.l m0.ids.l⟩ ⟨A2,cap2,B9 sum.l m0.xs.l⟩ (many+1)) [0,1,2,3,4] (show PXInv l.length c p _ from ⟨by show i+1≤l.length;omega,⟨by show many+1≤i+1;omega,by show i+1≤30;omega⟩,k1.more fun f hf=>List.mem_append_left _ (List.mem_append_left _ hf),.inr (List.mem_append_left _ (List.mem_append_right _ (List.mem_singleton.2 rfl))),.inr (List.mem_append_right _ (List.mem_singleton.2 rfl)),pa4,sp1,pl1,dm1⟩) (by show l.length - (i+1) < l.length - i;omega) ?_
  simp (maxSteps:=10^6) only[vi2,vs2,↓List.forall_mem_cons,push_cast,↓reduceIte,reduceCtorEq,Nat.reduceEqDiff,Nat.reduceLT,Nat.reduceAdd]
 intro _ _
 obtain⟨d,hd⟩:∃d:Nat,c.dim=d:=⟨c.dim.toNat,by omega⟩
 obtain⟨hks,hkf⟩:=hx.keys
 have hrw:=hx.rows hd
 have hdr:r.dim=(d:Int):=by rw[←hd];exact hx.dim
 refine Uh (ι:=MgR×List Fct) (A:=smB g r) (M:=[.blk 25 (.c [.v (.int .i64 c.dim),.v (.slice c.ps.A c.ps.l.length c.ps.c),.v (.slice c.gs.A c.gs.l.length c.gs.c),.v (.int .i64 c.least),.v (.int .i64 c.term)]),.abs (Ac Fs)]) (g:=g) (t:=120) (c:=.c (smA r)) (l:=Fs) 1 (fun x=>x.1.mg=r.s.all 1∧MW x.2 x.1) (fun x=>.x (.g (mgA x.1))) (fun _=>smB g r) (fun x=>x.2) rfl rfl rfl (fun x _=>⟨_,rfl⟩) (fun x _=>rfl) rfl Xt rfl (fun γ w1 hS hg=>?_) (fun x γ=>by rw[By,By]) (Af rfl) (Cq g r) (fun x _=>Cq g r) (by simp (maxSteps:=10^6) only[↓List.forall_mem_cons,push_cast,Nat.reduceLT,Nat.reduceAdd]) (by
  show ∀x∈_,Sv.av 3 _
  simp (maxSteps:=10^6) only[↓List.forall_mem_cons,push_cast,reduceCtorEq,Nat.reduceLeDiff]) (by
  show ∀x∈_,Res.av 3 _
  simp (maxSteps:=10^6) only[↓List.forall_mem_cons,push_cast]) ?_
 ·have hk:=Dp (A:=smB g r) hS (k:=1) rfl
  have:=Abh r 1 (n:=d) (hS.frontA (Cq g r)) hk hok hks hdr (by omega) hrw hkf
  rw[Rn (hS.frontA (Cq g r)) [.x (.a (.v (.int .i64 1)))] (fun x hx γ γ'=>by rw[List.mem_singleton.1 hx];rfl) γ] at this
  show Calls _ _ #[.pointer (some ⟨nmB γ 0,0,none⟩),.int .i64 1] w1 _
  rw[hg]
  refine this.mono fun e w'' ⟨x,γ1,h1,h2,h3⟩=>⟨x,γ1,h1,?_,h3⟩
  rw[h2,By,By]
 rintro⟨x,J⟩ ⟨x1,x2⟩
 dsimp only at x1 x2
 have gx:=Bv x2.s
 have dz:(mgA zeroR).drop 43=[]:=rfl
 have xid:x.ids.l=inn.l:=(congrArg MgS.ids x1).trans (Ayu hpa)
 have xxs:x.xs.l=sum.l:=(congrArg MgS.xs x1).trans ((Ayw hpa.inv).trans hpa.eq.symm)
 have f38:=fun d=>(C3 (m:=x) x2.s).2.2.2.2.2.2.1 d
 have f41:=fun d=>(C3 (m:=x) x2.s).2.2.2.2.2.2.2.2.2.1 d
 have vxi:x.ids.val=.slice x.ids.A x.ids.l.length x.ids.c:=rfl
 have vxx:x.xs.val=.slice x.xs.A x.xs.l.length x.xs.c:=rfl
 have sd:sum.l.length≤32:=by
  have h1:=hpa.len
  have h2:r.s.dim=c.dim:=hx.dim
  rw[h2] at h1
  omega
 unfold smB smA
 simp (maxSteps:=10^6) only[gx,f38,B6,Cg,Cj,Ci,undef,↓List.forall_mem_cons,↓Cs,↓Bj,push_cast,↓reduceIte,reduceCtorEq,Nat.reduceEqDiff,Nat.reduceLT,Nat.reduceAdd]
 (repeat (refine And.intro (by first|omega|decide) ?_))
 have hin2:∀f∈Fs,f∈Fs++J:=fun f hf=>List.mem_append_left _ hf
 have sh38:∀{hp:List Res},hp[4]?=some (.abs (Ac (Fs++J)))→A6 w No hp (.x (.a (.v x.ids.val))) (inn.l.map (Value.int .i64)):=fun h1=>by
  rw[←xid]
  exact J6 h1 (x2.ids.more fun f hf=>List.mem_append_right _ hf) (fun e=>by rw[e];rfl) (List.length_map ..)
 have sh41:∀{hp:List Res},hp[4]?=some (.abs (Ac (Fs++J)))→A6 w No hp (.x (.a (.v x.xs.val))) (sum.l.map Aj):=fun h1=>by
  rw[←xxs]
  exact J6 h1 (x2.xs.more fun f hf=>List.mem_append_right _ hf) (fun e=>by rw[e];rfl) (List.length_map ..)
 have sh9:∀{hp:List Res},hp[4]?=some (.abs (Ac (Fs++J)))→A6 w No hp (.x (.a (.v inn.val))) (inn.l.map (Value.int .i64)):=fun h1=>J6 h1 (hin.more hin2) (fun e=>by rw[e];rfl) (List.length_map ..)
 have sh10:∀{hp:List Res},hp[4]?=some (.abs (Ac (Fs++J)))→A6 w No hp (.x (.a (.v sum.val))) (sum.l.map Aj):=fun h1=>J6 h1 (hsm.more hin2) (fun e=>by rw[e];rfl) (List.length_map ..)
 refine Ar rfl Xu rfl (A5u (a:=inn.l) (b:=inn.l) (by omega) (sh38 rfl) (sh9 rfl)) (Af rfl) ?_
 rw[decide_eq_true (rfl:inn.l=inn.l)]
 simp (maxSteps:=10^6) only[gx,f41,undef,push_cast,↓reduceIte,reduceCtorEq,Nat.reduceEqDiff,Nat.reduceLT,Nat.reduceAdd]
 (repeat (refine And.intro (by first|omega|decide) ?_))
 refine Ar rfl Av0 rfl (A0z (a:=sum.l) (b:=sum.l) (by omega) (sh41 rfl) (sh10 rfl)) (Af rfl) ?_
 rw[decide_eq_true (rfl:sum.l=sum.l)]
 simp (maxSteps:=10^6) only[push_cast,↓reduceIte,Nat.reduceEqDiff,Nat.reduceLT,Nat.reduceAdd]
 (repeat (refine And.intro (by first|omega|decide) ?_))
 refine Dx rfl Ti rfl (Ab1 (r:=r) (g:=g) (M:=[.blk 25 (.c [.v (.int .i64 c.dim),.v (.slice c.ps.A c.ps.l.length c.ps.c),.v (.slice c.gs.A c.gs.l.length c.gs.c),.v (.int .i64 c.least),.v (.int .i64 c.term)]),.abs (Ac (Fs++J)),.blk 48 (.c (mgA x))]) hks (by
  show ∀q∈_,Res.bnd 6 q
  unfold smB smA
  simp (maxSteps:=10^6) only[↓List.forall_mem_cons,↓List.forall_mem_append,↓Al,push_cast,Nat.reduceLT])) (Af rfl) (by simp (maxSteps:=10^6) only[↓List.forall_mem_cons,↓Al,↓Bj,push_cast,Nat.reduceLT,Nat.reduceAdd]) ?_
 have hfl:r.s.from_.length=many:=(A7k r.s).trans hpa.many.symm
 unfold smB smA
 simp (maxSteps:=10^6) only[hfl,push_cast,↓reduceIte,Nat.reduceEqDiff,Nat.reduceLT,Nat.reduceAdd]
 (repeat (refine And.intro (by first|omega|decide) ?_))
 obtain⟨rf1,rf2⟩:=A6y (p:=p) hcfT.1
 have cok:c.Ok w:=⟨hc.plen,by have:c.ps.l.length≤30:=bp;omega,hc.prd,hc.glen,by have:(c.gs.l.map GrR.gr).length≤30:=bg;rw[List.length_map] at this;omega,hc.grd,fun y hy=>⟨(hc.ids y hy).1,by have:y.ids.l.length≤30:=bi y.gr (List.mem_map_of_mem hy);omega,(hc.ids y hy).2.2⟩⟩
 refine Dx rfl Av1 rfl (A69 c p cok hcfT.1 (by have:(c.gs.l.map GrR.gr).length≤30:=bg;rw[List.length_map] at this;omega) (fun y hy=>bi y.gr (List.mem_map_of_mem hy)) rf1 rf2 (by simp (maxSteps:=10^6) only[↓List.forall_mem_cons,↓Al,push_cast,Nat.reduceLT,Nat.reduceAdd])) (Af rfl) (by simp (maxSteps:=10^6) only[↓List.forall_mem_cons,↓Al,↓Bj,push_cast,Nat.reduceLT,Nat.reduceAdd]) ?_
 simp (maxSteps:=10^6) only[push_cast,↓reduceIte,Nat.reduceEqDiff,Nat.reduceAdd]
 (repeat (refine And.intro (by first|omega|decide) ?_))
 have sb:=A61 hcfT.1 hx.spots hx.place hpa
 refine Dx rfl Xv rfl (Ab6 (a:=inn.l) (b:=someR 0 (Dq c.cf p) [] 64) 2 (.inr rfl) (by omega) (by have:=Ab3 0 (Dq c.cf p) [] 64;omega) (sh9 rfl) (Kx (k:=7) rfl (fun _=>rfl)) (by simp (maxSteps:=10^6) only[↓List.forall_mem_cons,↓Al,push_cast,Nat.reduceLT,Nat.reduceAdd])) (Af rfl) (by simp (maxSteps:=10^6) only[↓List.forall_mem_cons,↓Al,↓Bj,push_cast,Nat.reduceLT,Nat.reduceAdd]) ?_
 rw[sb]
 simp (maxSteps:=10^6) only[List.length_nil,push_cast,↓Int.cast_ofNat_Int,Int.cast_ofNat_Int,↓reduceIte,Nat.reduceEqDiff,Nat.reduceLT,Nat.reduceAdd]
 (repeat (refine And.intro (by first|omega|decide) ?_))
 refine Ar rfl Tf rfl (U5 hgd) (Af rfl) ?_
 simp (maxSteps:=10^6) only[push_cast,↓reduceIte,Nat.reduceEqDiff,Nat.reduceLT,Nat.reduceAdd]
end Go.Proofs.YtedaafmfjhjfmaaGreatDoor
