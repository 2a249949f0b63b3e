import Derived.Test.YtedaafmfjhjfmaaGreatDoorLn0
/- Layer 29 walked: All. -/
namespace Go.Proofs.YtedaafmfjhjfmaaGreatDoor
open Go.RowKit
set_option linter.unusedSimpArgs false
set_option linter.unusedVariables false
theorem Abg {r:SmR} {g:Nat} {M:List Res} {w0:World} {B:Nat→Prop} (hk:J9 r.taken):∀γ w,Sat w0 B γ (smB g r++M) w→Calls Tryz.prog 31 (List.map (Sv.val γ) [.x (.a (.p 0 0))]).toArray w fun en w'=>∃v',en=.returned v'∧Own w' w.heap.size 3 v' (r.s.from_.map (Value.int .i64))∧Below w.heap.size w w':=fun γ w hS=>by
 obtain⟨_,hg,_⟩:=hS.holds 0 (.pin g 120 (.c (smA r))) rfl
 show Calls _ _ #[.pointer (some ⟨nmB γ 0,0,none⟩)] w _
 rw[hg]
 exact A4b hS hk
def tqR (r:SmR) (q:Int):MgR:=(Av r.taken q).getD zeroR
def Ka (r:SmR) (l:List Int):List Int:=(l.map (tqR r)).foldl (fun a t=>Ay a t.ids.l) []
def D3 (r:SmR) (l:List Int):List Rw:=l.map fun q=>Aa0 (tqR r q).xs
def Eo (r:SmR) (l:List Int):List Pr:=l.flatMap fun q=>(tqR r q).ps.l
def C4 (r:SmR) (l:List Int):List (UInt64×UInt64):=l.flatMap fun q=>Cb (tqR r q).ns.l
theorem A4m {α:Type} {w0:World} {ow:Nat→Prop} {hp:List Res} {kf:Nat} {Fs:List Fct} {s:SlV α} {vs:List Value} (hF:hp[kf]?=some (.abs (Aa Fs))) (h:SlF Fs s vs) (h0:s=⟨none,0,[]⟩→vs=[]) (hn:vs.length=s.l.length):Bi w0 ow hp (.x (.a (.v s.val))) vs:=by
 rcases h with e|h
 ·rw[h0 e,e]
  exact Aw3
 ·exact Aas hF h hn
theorem Ix {α β:Type} {f:α→List β} {K:Nat}:∀{l:List α},(∀x∈l,(f x).length≤K)→(l.flatMap f).length≤K*l.length
 |[],_=>Nat.zero_le _
 |a::l,h=>by
  have h1:=h a (List.mem_cons_self ..)
  have h2:=Ix (l:=l) fun x hx=>h x (List.mem_cons_of_mem _ hx)
  rw[List.flatMap_cons,List.length_append,List.length_cons,Nat.mul_succ]
  omega
theorem M3:∀l:List UInt64,(Cb l).length≤l.length
 |[]=>Nat.le_refl _
 |[_]=>Nat.zero_le _
 |a::b::r=>by
  have:=M3 r
  rw[Cb,List.length_cons,List.length_cons,List.length_cons]
  omega
theorem zPr:ZOk Tryz.prog 115 (.c [.v (.int .i64 0),.v (.int .u64 0)]):=⟨.agg #[.int .i64 0,.int .u64 0],by kernel_rfl,fun _=>rfl⟩
theorem sPr:sz Tryz.prog 115=2:=by kernel_rfl
theorem bPr:bz Tryz.prog 115=16:=by kernel_rfl
theorem A4n (l:List Pr):∀v∈l.flatMap prV,v.oneCell'=true∧scalar v:=fun v hv=>by
 obtain⟨p,_,hp⟩:=List.mem_flatMap.1 hv
 simp only[prV,List.mem_cons,List.not_mem_nil,or_false] at hp
 rcases hp with rfl|rfl<;>exact⟨rfl,trivial⟩
theorem U3 (p:Pr):(prV p).length=2:=rfl
theorem Iy (p:UInt64×UInt64):(paV p).length=2:=rfl
theorem Abh:∀(a b:List UInt64),a.length % 2=0→Cb (a++b)=Cb a++Cb b
 |[],b,_=>rfl
 |[_],_,h=>by simp at h
 |x::y::a,b,h=>by
  have:=Abh a b (by simp only[List.length_cons] at h;omega)
  show (x,y)::Cb (a++b)=_
  rw[this]
  rfl
theorem A4o {L:List (UInt64×UInt64)} {i:Nat} (hi:i < L.length):((vC (L.flatMap paV)).drop (i*2)).take 2=[.v (vU64 (ix L i).1),.v (vU64 (ix L i).2)]:=by
 have hl:(vC (L.flatMap paV)).length=L.length*2:=by rw[Ho,Cd Iy]
 have g:∀k,k < 2→(vC (L.flatMap paV))[i*2+k]?=some (.v ((paV (ix L i))[k]?.getD undef)):=fun k hk=>by
  unfold vC
  rw[List.getElem?_map,Ik Iy L i k hi hk]
  have:k < (paV (ix L i)).length:=hk
  rw[List.getElem?_eq_getElem this]
  rfl
 refine List.ext_getElem? fun k=>?_
 rw[List.getElem?_take]
 by_cases hk:k < 2
 ·rw[if_pos hk,List.getElem?_drop,g k hk]
  match k,hk with
  |0,_=>rfl
  |1,_=>rfl
 ·rw[if_neg hk,List.getElem?_eq_none (by show 2≤k;omega)]
theorem Q8 {α:Type} [Inhabited α] {l:List α} {i:Nat} (h:i < l.length):l.take (i+1)=l.take i++[ix l i]:=by
 rw[List.take_add_one,List.getElem?_eq_getElem h]
 simp [ix,List.getD_eq_getElem?_getD,List.getElem?_eq_getElem h]
theorem M4 {r:SmR} {q:Int} (h:q∈r.s.from_):∃t,Av r.taken q=some t∧(q,t)∈r.taken:=by
 have h1:q∈r.s.taken.map (·.1):=(Jx r.s).mem_iff.1 h
 have h2:r.s.taken=Bf MgR.mg r.taken:=rfl
 rw[h2] at h1
 obtain⟨p,hp,e⟩:=List.mem_map.1 h1
 cases hm:Av r.taken q with
 |some t=>exact⟨t,rfl,Us hm⟩
 |none=>
  unfold Bf at hp
  obtain⟨y,hy,rfl⟩:=List.mem_map.1 hp
  exact absurd e (T7 hm y hy)
def nmP (L:List (UInt64×UInt64)):List UInt64:=L.flatMap fun p=>[p.1,p.2]
theorem A4p (L:List (UInt64×UInt64)):(nmP L).length=L.length*2:=by
 unfold nmP
 induction L with
 |nil=>rfl
 |cons p L ih=>
  rw[List.flatMap_cons,List.length_append,ih]
  show 2+L.length*2=(L.length+1)*2
  omega
theorem A4q:nmP []=[]:=rfl
theorem M5 (r:SmR):r.s.msgs=r.s.from_.map fun q=>(tqR r q).mg:=by
 unfold Sms.msgs
 refine List.map_congr_left fun q hq=>?_
 obtain⟨t,h1,_⟩:=M4 hq
 show (Av (Bf MgR.mg r.taken) q).getD Fq=_
 unfold tqR
 rw[Qj,h1]
 rfl
theorem A4r (r:SmR):Ka r r.s.from_=Ir r.s∧Eo r r.s.from_=r.s.msgs.flatMap (·.ps)∧C4 r r.s.from_=r.s.msgs.flatMap fun m=>Cb m.ns:=by
 refine⟨?_,?_,?_⟩
 ·unfold Ka Ir
  rw[M5,List.foldl_map,List.foldl_map]
  rfl
 ·unfold Eo
  rw[M5,List.flatMap_map]
  rfl
 ·unfold C4
  rw[M5,List.flatMap_map]
  rfl
theorem A4s (r:SmR) (n:Nat) (hd:r.dim=n) (h:∀q∈r.s.from_,(tqR r q).xs.l.length=n):Bk n ((D3 r r.s.from_).map (·.l)) (D3 r r.s.from_).length=Fe r.s:=by
 have e:(D3 r r.s.from_).map (·.l)=r.s.msgs.map (·.xs):=by
  unfold D3
  rw[M5,List.map_map,List.map_map]
  rfl
 have hl:(D3 r r.s.from_).length=(r.s.msgs.map (·.xs)).length:=by rw[←e,List.length_map]
 rw[hl,e,Aaz n _ (fun x hx=>by
  rw[M5,List.map_map] at hx
  obtain⟨q,hq,rfl⟩:=List.mem_map.1 hx
  exact h q hq) _ (Nat.le_refl _),List.take_of_length_le (Nat.le_refl _),List.foldl_map]
 unfold Fe
 have hd:r.s.dim.toNat=n:=by
  show r.dim.toNat=n
  omega
 rw[hd]
theorem A4t {w0:World} {ow:Nat→Prop} {hp:List Res} {k:Nat} {e:TypeId} (R:List Rw) (n:Nat) (hn:n≤32) (hRl:R.length≤1000) (hr:hp[k]?=some (.own e (.c (R.map fun r=>.v r.val)))) (hk:∀γ w,Sat w0 ow γ hp w→∀i,i < R.length→(ix R i).l.length=n∧RdV w w.heap.size (ix R i).A ((ix R i).l.map Ap)):
  ∀γ w,Sat w0 ow γ hp w→Calls Tryz.prog 84 (List.map (Sv.val γ) [.x (.a (.o k)),.x (.a (.v (.int .i64 n)))]).toArray w fun en w'=>∃(x:Option Addr×Nat) (γ1:List Nm),(Bk n (R.map (·.l)) R.length).length≤x.2∧en=.returned ((Sv.t [.a (.v (.slice x.1 (Bk n (R.map (·.l)) R.length).length x.2)),.a (.v .nilIface)]).val [])∧Sat w No γ1 [.abs (Aa [⟨.slice x.1 (Bk n (R.map (·.l)) R.length).length x.2,(Bk n (R.map (·.l)) R.length).length,(Bk n (R.map (·.l)) R.length).map Ap⟩])] w':=fun γ w hS=>by
 obtain⟨A,c,h1,h2,h3,h4⟩:=hS.rdOwn hr
 have e1:(Cont.c (R.map fun r=>At.v r.val)).vals γ=R.map Rw.val:=by
  simp only[Cont.vals,List.map_map]
  rfl
 have e2:(Cont.c (R.map fun r=>At.v r.val)).len=R.length:=by simp [Cont.len]
 rw[e1] at h4
 rw[e2] at h1 h2
 show Calls _ _ #[nmS γ k,.int .i64 n] w _
 rw[h1]
 refine (A3l R n hn hRl A c w h4 (hk γ w hS)).mono fun en w' ⟨v',he,ho,hb⟩=>?_
 obtain⟨x,γ1,x1,x2,x3⟩:=Abe ho hb
 rw[List.length_map] at x1 x2 x3
 exact⟨x,γ1,x1.1,by rw[he,x2];rfl,x3⟩
attribute [local irreducible] Ad Ae Ah Ar Ak Am Ai Al
attribute [local irreducible] nmP Bk okV Cj Sms.may Sms.takeE mgS Sms.from_
set_option maxRecDepth 100000 in
set_option maxHeartbeats 2000000 in
theorem U4 (r:SmR) (ge:Int) {g n:Nat} {w:World} {B:Nat→Prop} {γ:List Nm} {Fs:List Fct} (hS:Sat w B γ (smB g r) w) (hw:Known w B Fs) (ok:SmOk Fs r) (hk:J9 r.taken) (hd:r.dim=n) (hn:n≤32) (hr:∀t∈r.taken,t.2.xs.l.length=n∧t.2.ns.l.length % 2=0∧0 < t.2.ps.l.length) (hfew:r.taken.length≤30):
  Calls Tryz.prog 28 (List.map (Sv.val (γ++[.m (.bool true) (fun _=>False)])) [.x (.a (.p 0 0)),.x (.a (.v (.int .i64 ge)))]).toArray w fun e w'=>∃(x:MgR×List Fct) (γ1:List Nm),(x.1.mg=r.s.all ge∧MW x.2 x.1)∧e=.returned ((Sv.x (.g (mgA x.1))).val γ1)∧Sat w B γ1 (smB g r++[.abs (Aa x.2)]) w':=by
 refine Uo (n:=108) (ι:=MgR×List Fct) (fun x=>x.1.mg=r.s.all ge∧MW x.2 x.1) (fun x=>.x (.g (mgA x.1))) (fun x=>smB g r++[.abs (Aa x.2)]) Tryz.func28 rfl Tryz.ntmps28 [.x (.a (.p 0 0)),.x (.a (.v (.int .i64 ge)))] (hS.fct0 (by unfold smB smA;simp (maxSteps:=10^6) only[↓List.forall_mem_cons,push_cast,Nat.reduceLT,Nat.reduceAdd])) (by simp) ?_
 unfold smB smA
 obtain⟨r0,hr0⟩:∃r0:MgR,r0=⟨6,r.place,0,0,ge,0,List.replicate 32 0,default,default,default,default,0⟩:=⟨_,rfl⟩
 have as_:(((mgA zeroR).set 0 (.v (.int .u8 6))).set 1 (.v (.int .i64 r.place))).set 4 (.v (.int .i64 ge))=mgA r0:=by rw[hr0];rfl
 have z0:r0.sm.length=32:=by rw[hr0];rfl
 have l0:=Bo z0
 have dz:(mgA zeroR).drop 43=[]:=rfl
 have zb:=fun n=>Cs zeroR n
 simp only[At.bnd] at zb
 have zb0:=fun n=>Cs r0 n
 simp only[At.bnd] at zb0
 simp (maxSteps:=10^6) only[as_,l0,B6,Cq,B9,Ck,undef,↓List.forall_mem_cons,↓Cp,↓Ao,↓Bj,push_cast,↓reduceIte,reduceCtorEq,Nat.reduceEqDiff,Nat.reduceLT,Nat.reduceAdd]
 (repeat (refine And.intro (by first|omega|decide) ?_))
 refine Fm rfl Pf rfl (Id (c:=.i64 r.s.from_) (by simp (maxSteps:=10^6) only[↓List.forall_mem_cons,↓Ao,push_cast,Nat.reduceLT,Nat.reduceAdd]) trivial (Abg (g:=g) (M:=[.abs (Aa []),.blk 48 (.c (mgA zeroR)),.blk 48 (.c (mgA r0))]) hk)) (Af rfl) (by simp (maxSteps:=10^6) only[↓List.forall_mem_cons,↓Ao,↓Bj,push_cast,Nat.reduceLT,Nat.reduceAdd]) ?_
 obtain⟨F,hF⟩:∃F,F=r.s.from_:=⟨_,rfl⟩
 rw[←hF]
 simp (maxSteps:=10^6) only[push_cast,↓reduceIte,Nat.reduceLT,Nat.reduceAdd]
 refine Pa 6 46 (.c []) rfl rfl (by simp [Cont.bnd]) (by simp (maxSteps:=10^6) only[↓List.forall_mem_cons,↓Ao,↓Bj,push_cast,Nat.reduceLT,Nat.reduceAdd]) ?_
 refine Ts 7 131 2 (.c []) (by omega) rfl rfl (by simp (maxSteps:=10^6) only[zb0,↓List.forall_mem_cons,↓List.forall_mem_append,↓Ao,push_cast,Nat.reduceLT,Nat.reduceAdd]) ?_
 have g40:(mgA r0)[40]?=some (.v (.slice none 0 0)):=by rw[hr0];rfl
 refine Qg 5 40 48 115 2 (mgA r0) (.c []) (by omega) (by simp (maxSteps:=10^6) only[push_cast]) g40 rfl (by simp (maxSteps:=10^6) only[zb0,↓List.forall_mem_cons,↓List.forall_mem_append,↓Ao,push_cast,Nat.reduceLT,Nat.reduceAdd]) ?_
 have e40:∀y,(mgA r0).set 40 y=mgS r0 (.v (.slice none 0 0)) y:=fun y=>by
  have:=(M2 z0 (.v r0.ns.val) (.v r0.ps.val)).2.2.1 y
  rw[←A4e] at this
  rw[this,hr0]
  rfl
 simp (maxSteps:=10^6) only[e40,push_cast,Nat.reduceAdd]
 have hFl:F.length=r.taken.length:=by
  rw[hF,(Jx r.s).length_eq,List.length_map]
  show (Bf MgR.mg r.taken).length=_
  unfold Bf
  rw[List.length_map]
 refine Bh (ι:=Nat×MgR×List Fct) (fun x=>⟨[(0,.x (.a (.p 0 0))),(4,.x (.a (.p 4 0))),(5,.x (.a (.p 5 0))),(6,.x (.a (.o 7))),(7,.x (.a (.o 8))),(24,.x (.a (.o 6))),(25,.x (.a (.v (.int .i64 F.length)))),(26,.x (.a (.v (.int .i64 (x.1:Nat)))))],
  [.pin g 120 (.c [.v (.int .i64 r.place),.v (.int .i64 r.dim),.v r.spots.val,.o 1,.o 2]),.mp .i64 (iE r.heard),.mp .i64 (mgE r.taken),.abs (Aa x.2.2),.blk 48 (.c (mgA zeroR)),.blk 48 (.c (mgS x.2.1 (.v (.slice none 0 0)) (.o 9))),.own 3 (.i64 F),.own 46 (.c ((D3 r (F.take x.1)).map fun x=>.v x.val)),.onn 131 2 (.c (vC ((C4 r (F.take x.1)).flatMap paV))),.onn 115 2 (.c (vC ((Eo r (F.take x.1)).flatMap prV)))]⟩)
  (fun x=>x.1≤F.length∧x.2.1={r0 with ids:=x.2.1.ids}∧x.2.1.ids.l=Ka r (F.take x.1)∧SlF x.2.2 x.2.1.ids (x.2.1.ids.l.map (Value.int .i64))) (fun x=>F.length - x.1) (0,r0,[]) [0,1,2,3,4,5,6,7,8,9] ⟨Nat.zero_le _,rfl,by rw[hr0];rfl,.inl (by rw[hr0];rfl)⟩ ?_ ?_
 ·simp (maxSteps:=10^6) only[↓List.forall_mem_cons,↓Ao,↓A7,↓D2,↓Li,push_cast,↓Int.cast_ofNat_Int,Int.cast_ofNat_Int,↓reduceIte,reduceCtorEq,Nat.reduceEqDiff,Nat.reduceLT,Nat.reduceAdd]
  exact⟨rfl,rfl,rfl⟩
 rintro⟨i,m,Gs⟩ ⟨i1,i2,i3,i4⟩
 dsimp only at i1 i2 i3 i4
 have zm:m.sm.length=32:=by rw[i2];exact z0
 have lm:=U2 zm
 obtain⟨q38,q39,q40,q41⟩:(∀a b d,(mgS m a b).getD 38 d=.v m.ids.val)∧(∀a b d,(mgS m a b).getD 39 d=a)∧(∀a b d,(mgS m a b).getD 40 d=b)∧(∀a b d,(mgS m a b).getD 41 d=.v m.xs.val):=⟨fun a b=>(Lj zm a b).1,fun a b=>(Lj zm a b).2.1,fun a b=>(Lj zm a b).2.2.1,fun a b=>(Lj zm a b).2.2.2⟩
 by_cases hlt:(i:Int) < F.length
 ·have il:i < F.length:=by omega
  have i0:(0:Int)≤i:=by omega
  obtain⟨t,ht,htm⟩:=M4 (r:=r) (q:=ix F i) (by rw[←hF];exact Dr il)
  have lk:Cr (mgE r.taken) (ix F i)=some (.g (mgA t)):=by rw[Aal,ht];rfl
  have okt:=ok.taken _ htm
  have mt:=Hu okt hw
  obtain⟨hrx,hrn,hrp⟩:=hr _ htm
  dsimp only at okt mt hrx hrn hrp
  have lt:=Bo okt.s
  obtain⟨_,_,_,_,_,_,t38,t39,t40,t41,_⟩:=Dc okt.s
  simp (maxSteps:=10^6) only[hlt,i0,il,lk,Ux,lt,lm,q38,t38,B6,Cq,B9,Ck,undef,↓List.forall_mem_cons,↓Cp,↓Ao,↓Bj,↓D2,push_cast,↓Int.toNat_natCast,↓reduceIte,reduceCtorEq,Nat.reduceEqDiff,Nat.reduceLT,Nat.reduceAdd]
  (repeat (refine And.intro (by first|omega|decide) ?_))
  have hidl:(Ka r (F.take i)).length≤1000000:=by
   have:∀(l:List MgR) (a:List Int),a.length≤64→(l.foldl (fun a t=>Ay a t.ids.l) a).length≤64:=fun l=>by
    induction l with
    |nil=>exact fun a h=>h
    |cons x l ih=>exact fun a _=>ih _ (Z3 _ _)
   have:=this ((F.take i).map (tqR r)) [] (by simp)
   unfold Ka
   omega
  have htq:∀q∈F.take i,(tqR r q).ps.l.length≤1000∧(tqR r q).ns.l.length≤1000:=fun q hq=>by
   obtain⟨t,h1,h2⟩:=M4 (r:=r) (q:=q) (by rw[←hF];exact List.mem_of_mem_take hq)
   unfold tqR
   rw[h1]
   exact⟨(ok.taken _ h2).few.ps,(ok.taken _ h2).few.ns⟩
  have hti:(F.take i).length=i:=by rw[List.length_take];omega
  have pfew:(Eo r (F.take i)).length≤30000:=by
   have:=Ix (f:=fun q=>(tqR r q).ps.l) (K:=1000) (l:=F.take i) fun q hq=>(htq q hq).1
   unfold Eo
   omega
  have nfew:(C4 r (F.take i)).length≤30000:=by
   have:=Ix (f:=fun q=>Cb (tqR r q).ns.l) (K:=1000) (l:=F.take i) fun q hq=>Nat.le_trans (M3 _) (htq q hq).2
   unfold C4
   omega
  have mtp:t.ps.l.length≤1000:=mt.few.ps
  refine J5 3 (vs:=(Ay m.ids.l t.ids.l).map (Value.int .i64)) rfl rfl X7 rfl (A4k (a:=m.ids.l) (b:=t.ids.l) (by rw[i3];exact hidl) (Nat.le_trans mt.few.ids (by omega)) (A4m (kf:=3) rfl i4 (fun e=>by rw[e];rfl) (by rw[List.length_map])) (J3 mt.ids.2 _ _ (by simp) mt.ids.1)) (Af rfl) (by simp (maxSteps:=10^6) only[Bd,↓List.forall_mem_cons,↓Ao,↓Bj,↓D2,push_cast,Nat.reduceLT,Nat.reduceAdd]) ?_
  intro A1 cap1 b1 _
  rw[List.length_map] at b1
  obtain⟨m1,hm1⟩:∃m1:MgR,m1={m with ids:=⟨A1,cap1,Ay m.ids.l t.ids.l⟩}:=⟨_,rfl⟩
  have s1:∀a b,(mgS m a b).set 38 (.v (.slice A1 (Ay m.ids.l t.ids.l).length cap1))=mgS m1 a b:=fun a b=>by
   rw[hm1]
   exact (M2 zm a b).1 ⟨A1,cap1,Ay m.ids.l t.ids.l⟩
  have zm1:m1.sm.length=32:=by rw[hm1];exact zm
  have lm1:=U2 zm1
  have q401:∀a b d,(mgS m1 a b).getD 40 d=b:=fun a b=>(Lj zm1 a b).2.2.1
  simp (maxSteps:=10^6) only[s1,lm1,q401,List.length_map,lm,lt,t40,undef,push_cast,↓reduceIte,reduceCtorEq,Nat.reduceEqDiff,Nat.reduceLT,Nat.reduceAdd]
  (repeat (refine And.intro (by first|omega|decide) ?_))
  have pl2:(vC ((Eo r (F.take i)).flatMap prV)).length / 2=(Eo r (F.take i)).length:=by
   rw[Ho,Cd U3]
   omega
  refine A4c (k:=9) (m:=2) (nd:=t.ps.l.length) (cp:=t.ps.c) (e:=115) (A:=t.ps.A) (vs:=t.ps.l.flatMap prV) rfl rfl rfl rfl Tryz.underlying45 (by omega) (Cd U3 _) hrp (A4n _) sPr rfl zPr (by rw[pl2,bPr];omega) (by rw[pl2];unfold maxLen;omega) (fun γ' w' hS'=>?_) (Af rfl) (by simp (maxSteps:=10^6) only[Bd,↓List.forall_mem_cons,↓Ao,↓Bj,↓D2,push_cast,Nat.reduceLT,Nat.reduceAdd]) ?_
  ·obtain⟨A',c',e,_,h3⟩:=J3 mt.ps.2 (pvs t.ps.l).length (pvs t.ps.l).length rfl (Nat.le_refl _) γ' w' hS'
   have e:Value.slice t.ps.A (pvs t.ps.l).length (pvs t.ps.l).length=.slice A' (pvs t.ps.l).length c':=e
   injection e with e1 _ _
   subst e1
   exact h3
  have s40:∀a b y,(mgS m1 a b).set 40 y=mgS m1 a y:=fun a b=>(M2 zm1 a b).2.2.1
  have hrl:(D3 r (F.take i)).length=i:=by unfold D3;rw[List.length_map,hti]
  have b8:(i+1)*24≤140737488355328:=by omega
  have b9:i+1≤2 ^ 63 - 1:=by omega
  have vx:t.xs.val=.slice t.xs.A t.xs.l.length t.xs.c:=rfl
  have vn:t.ns.val=.slice t.ns.A t.ns.l.length t.ns.c:=rfl
  simp (maxSteps:=10^6) only[s40,lm1,hrl,b8,b9,List.length_map,lt,t41,undef,↓List.forall_mem_cons,↓List.forall_mem_append,↓Ao,↓Bj,↓D2,push_cast,↓reduceIte,reduceCtorEq,Nat.reduceEqDiff,Nat.reduceLT,Nat.reduceLeDiff,Nat.reduceAdd]
  refine⟨trivial,rfl,?_⟩
  have et:tqR r (ix F i)=t:=by
   unfold tqR
   rw[ht]
   rfl
  have tk:=Q8 il
  have er:(D3 r (F.take (i+1))).map (fun x=>At.v x.val)=(D3 r (F.take i)).map (fun x=>At.v x.val)++[.v t.xs.val]:=by
   unfold D3
   rw[tk,List.map_append,List.map_append,List.map_cons,List.map_nil,et]
   rfl
  have ep:vC ((Eo r (F.take (i+1))).flatMap prV)=vC ((Eo r (F.take i)).flatMap prV)++vC (t.ps.l.flatMap prV):=by
   unfold Eo
   rw[tk,List.flatMap_append,List.flatMap_cons,List.flatMap_nil,List.append_nil,et,List.flatMap_append,Lb]
  have ea:C4 r (F.take (i+1))=C4 r (F.take i)++Cb t.ns.l:=by
   unfold C4
   rw[tk,List.flatMap_append,List.flatMap_cons,List.flatMap_nil,List.append_nil,et]
  have eid:Ay m.ids.l t.ids.l=Ka r (F.take (i+1)):=by
   unfold Ka at i3 ⊢
   rw[tk,List.map_append,List.foldl_append,i3,List.map_cons,List.map_nil,List.foldl_cons,List.foldl_nil,et]
  rw[←er,←ep]
  obtain⟨Hs,hHs⟩:∃Hs,Hs=Gs++[⟨.slice A1 (Ay m.ids.l t.ids.l).length cap1,(Ay m.ids.l t.ids.l).length,(Ay m.ids.l t.ids.l).map (Value.int .i64)⟩]:=⟨_,rfl⟩
  rw[←hHs]
  refine Bh (ι:=Nat) (fun j=>⟨[(0,.x (.a (.p 0 0))),(4,.x (.a (.p 4 0))),(5,.x (.a (.p 5 0))),(6,.x (.a (.o 7))),(7,.x (.a (.o 8))),(10,.x (.a (.p 10 0))),(11,.x (.a (.v (.int .i64 (j:Nat))))),(24,.x (.a (.o 6))),(25,.x (.a (.v (.int .i64 F.length)))),(26,.x (.a (.v (.int .i64 i))))],
   [.pin g 120 (.c [.v (.int .i64 r.place),.v (.int .i64 r.dim),.v r.spots.val,.o 1,.o 2]),.mp .i64 (iE r.heard),.mp .i64 (mgE r.taken),.abs (Aa Hs),.blk 48 (.c (mgA zeroR)),.blk 48 (.c (mgS m1 (.v (.slice none 0 0)) (.o 9))),.own 3 (.i64 F),.own 46 (.c ((D3 r (F.take (i+1))).map fun x=>.v x.val)),.onn 131 2 (.c (vC ((C4 r (F.take i)++Cb (t.ns.l.take j)).flatMap paV))),.onn 115 2 (.c (vC ((Eo r (F.take (i+1))).flatMap prV))),.blk 48 (.c (mgA t))]⟩)
   (fun j=>j % 2=0∧j≤t.ns.l.length) (fun j=>t.ns.l.length - j) 0 [0,1,2,3,4,5,6,13,8,11,10] ⟨rfl,Nat.zero_le _⟩ ?_ ?_
  ·simp (maxSteps:=10^6) only[List.take_zero,show Cb []=[] from rfl,List.append_nil,↓List.forall_mem_cons,↓Ao,↓A7,↓D2,↓Li,push_cast,↓Int.cast_ofNat_Int,Int.cast_ofNat_Int,↓reduceIte,reduceCtorEq,Nat.reduceEqDiff,Nat.reduceLT,Nat.reduceAdd]
  rintro j ⟨j1,j2⟩
  by_cases hjt:(j:Int) < t.ns.l.length
  ·have jl:j < t.ns.l.length:=by omega
   have jl1:j+1 < t.ns.l.length:=by omega
   have j0:(0:Int)≤j:=by omega
   have j0':(0:Int)≤(j:Int)+1:=by omega
   have j1':(j:Int)+1 < t.ns.l.length:=by omega
   have jn:((j:Int)+1).toNat=j+1:=by omega
   have fewn:t.ns.l.length≤1000:=mt.few.ns
   have r1a:-9223372036854775808≤(j:Int)+1:=by omega
   have r1b:(j:Int)+1≤9223372036854775807:=by omega
   have r2a:-9223372036854775808≤(j:Int)+2:=by omega
   have r2b:(j:Int)+2≤9223372036854775807:=by omega
   have N:=FM.fw mt.ns.2
   have N0:=N.cell j jl
   have O0:=N.ok j jl
   have N1:=N.cell (j+1) jl1
   have O1:=N.ok (j+1) jl1
   have hA:=N.some_ (by omega)
   have epn:Cb (t.ns.l.take (j+2))=Cb (t.ns.l.take j)++[(ix t.ns.l j,ix t.ns.l (j+1))]:=by
    rw[show j+2=(j+1)+1 from rfl,Q8 jl1,Q8 jl,List.append_assoc,Abh _ _ (by rw[List.length_take];omega)]
    rfl
   generalize ix t.ns.l j=x at*
   generalize ix t.ns.l (j+1)=y at*
   simp (maxSteps:=10^6) only[hjt,t39,lt,vn,undef,push_cast,↓reduceIte,reduceCtorEq,Nat.reduceEqDiff,Nat.reduceLT,Nat.reduceAdd]
   refine S6 14 [(0,true),(1,true),(2,true),(3,true),(4,true),(5,true),(6,true),(7,true),(8,true),(9,true),(10,true),(11,true),(12,true),(13,false)] (by kernel_rfl) (by kernel_rfl) ?_
   simp (maxSteps:=10^6) only[hjt,t39,lt,vn,j0,j0',j1',jn,r1a,r1b,N0,O0,N1,O1,hA,undef,push_cast,↓Int.toNat_natCast,↓reduceIte,reduceCtorEq,Nat.reduceEqDiff,Nat.reduceLT,Nat.reduceAdd,Int.reduceNeg]
   have pl3:(vC ((C4 r (F.take i)++Cb (t.ns.l.take j)).flatMap paV)).length=(C4 r (F.take i)++Cb (t.ns.l.take j)).length*2:=by rw[Ho,Cd Iy]
   have pl4:(C4 r (F.take i)++Cb (t.ns.l.take j)).length≤31000:=by
    have:=M3 (t.ns.l.take j)
    rw[List.length_take] at this
    rw[List.length_append]
    omega
   refine A4d 72 [x,y] (by simp (maxSteps:=10^6) only[push_cast,↓reduceIte]) ?_
   simp (maxSteps:=10^6) only[↓List.forall_mem_cons,↓Ao,↓D2,push_cast,↓reduceIte,reduceCtorEq,Nat.reduceEqDiff,Nat.reduceLT,Nat.reduceLeDiff,Nat.reduceAdd,Nat.reduceMul,Int.reduceNeg]
   have fl:=Cd Iy (C4 r (F.take i)++Cb (t.ns.l.take j))
   have ev:vC ((C4 r (F.take i)++Cb (t.ns.l.take (j+2))).flatMap paV)=vC ((C4 r (F.take i)++Cb (t.ns.l.take j)).flatMap paV)++[.v (vU64 x),.v (vU64 y)]:=by
    rw[epn,←List.append_assoc,List.flatMap_append,Lb]
    rfl
   refine⟨⟨⟨by rw[fl];omega,by rw[fl];omega⟩,of_eq_true (Cs zeroR 12),(Abc m1 (.v (.slice none 0 0)) (.o 9) 12).mpr ⟨trivial,by show 9 < 12;omega⟩,of_eq_true (Cs t 12)⟩,⟨r2a,r2b⟩,?_⟩
   refine Be (j+2) [0,1,2,3,4,5,6,7,12,9,10] ⟨by omega,by omega⟩ (by omega) ?_
   simp (maxSteps:=10^6) only[ev,Bd,↓List.forall_mem_cons,↓List.forall_mem_append,↓Ao,↓A7,↓D2,↓Li,push_cast,↓reduceIte,reduceCtorEq,Nat.reduceEqDiff,Nat.reduceLT,Nat.reduceAdd]
   omega
  ·obtain rfl:j=t.ns.l.length:=by omega
   have nx1:-9223372036854775808≤(i:Int)+1:=by omega
   have nx2:(i:Int)+1≤9223372036854775807:=by omega
   rw[List.take_length,←ea]
   simp (maxSteps:=10^6) only[hjt,nx1,nx2,t39,lt,vn,undef,push_cast,↓reduceIte,reduceCtorEq,Nat.reduceEqDiff,Nat.reduceLT,Nat.reduceAdd,Int.reduceNeg]
   refine Be (i+1,m1,Hs) [0,1,2,3,4,5,6,7,8,9] ⟨by show i+1≤_;omega,by rw[hm1,i2],by rw[hm1];exact eid,?_⟩ (by show F.length - (i+1) < F.length - i;omega) ?_
   ·rw[hHs,hm1]
    exact .inr (List.mem_append_right _ (List.mem_singleton.2 rfl))
   ·simp (maxSteps:=10^6) only[Bd,↓List.forall_mem_cons,↓Ao,↓A7,↓D2,↓Li,push_cast,↓reduceIte,reduceCtorEq,Nat.reduceEqDiff,Nat.reduceLT,Nat.reduceAdd]
 ·obtain rfl:i=F.length:=by omega
  rw[List.take_length] at*
  simp (maxSteps:=10^6) only[hlt,lm,q40,undef,push_cast,↓reduceIte,reduceCtorEq,Nat.reduceEqDiff,Nat.reduceLT,Nat.reduceAdd]
  (repeat (refine And.intro (by first|omega|decide) ?_))
  have htq:∀q∈F,(tqR r q).ps.l.length≤1000∧(tqR r q).ns.l.length≤1000:=fun q hq=>by
   obtain⟨t,h1,h2⟩:=M4 (r:=r) (q:=q) (by rw[←hF];exact hq)
   unfold tqR
   rw[h1]
   exact⟨(ok.taken _ h2).few.ps,(ok.taken _ h2).few.ns⟩
  have pfew:(Eo r F).length≤30000:=by
   have:=Ix (f:=fun q=>(tqR r q).ps.l) (K:=1000) (l:=F) fun q hq=>(htq q hq).1
   unfold Eo
   omega
  have nfew:(C4 r F).length≤30000:=by
   have:=Ix (f:=fun q=>Cb (tqR r q).ns.l) (K:=1000) (l:=F) fun q hq=>Nat.le_trans (M3 _) (htq q hq).2
   unfold C4
   omega
  refine Jm rfl Av8 rfl (A39 (k:=9) (L:=Eo r F) rfl (by omega)) (Af rfl) (fun _=>by simp (maxSteps:=10^6) only[Bd,↓List.forall_mem_cons,↓Ao,↓D2,push_cast,Nat.reduceLT,Nat.reduceAdd]) ?_
  obtain⟨Q1,hQ1⟩:∃Q1,Q1=Ds prK (Eo r F):=⟨_,rfl⟩
  obtain⟨Q2,hQ2⟩:∃Q2,Q2=Ds paK (C4 r F):=⟨_,rfl⟩
  rw[←hQ1]
  simp (maxSteps:=10^6) only[push_cast,↓reduceIte,reduceCtorEq,Nat.reduceEqDiff,Nat.reduceLT,Nat.reduceAdd]
  (repeat (refine And.intro (by first|omega|decide) ?_))
  refine A4j 9 3 Q1.length (vs:=Q1.flatMap prV) rfl (fun γ=>Lc γ _) (Cd U3 _) rfl (by decide) fun A2 cap2=>?_
  simp (maxSteps:=10^6) only[Gp,Ij,Res.sub,Cont.sub,Sv.sub,Sc.sub,At.sub,Qn,Qo,Um,Ty,Up,Abd,push_cast,↓reduceIte,Nat.reduceEqDiff]
  refine Jm rfl Av9 rfl (A4a (k:=8) (L:=C4 r F) rfl (by omega)) (Af rfl) (fun _=>by simp (maxSteps:=10^6) only[Bd,↓List.forall_mem_cons,↓Ao,↓D2,push_cast,Nat.reduceLT,Nat.reduceAdd]) ?_
  rw[←hQ2]
  have hq2l:Q2.length=(C4 r F).length:=by rw[hQ2,Q7]
  have ql2:(vC (Q2.flatMap paV)).length / 2=Q2.length:=by
   rw[Ho,Cd Iy]
   omega
  have hq2v:(vC (Q2.flatMap paV)).length=Q2.length*2:=by rw[Ho,Cd Iy]
  have ql3:((Q2.flatMap paV).length:Int) / 2=Q2.length:=by
   rw[Cd Iy]
   omega
  simp (maxSteps:=10^6) only[ql3,Ho,push_cast,↓Int.cast_ofNat_Int,Int.cast_ofNat_Int,↓reduceIte,reduceCtorEq,Nat.reduceEqDiff,Nat.reduceLT,Nat.reduceAdd]
  have s39:∀a b y,(mgS m a b).set 39 y=mgS m y b:=fun a b=>(M2 zm a b).2.1
  refine Yp 5 39 48 41 (mgS m (.v (.slice none 0 0)) (.v (.slice A2 Q1.length cap2))) (.u64 []) (by simp (maxSteps:=10^6) only[push_cast]) (A4i zm _ _) rfl trivial (by simp (maxSteps:=10^6) only[Bd,↓List.forall_mem_cons,↓Ao,↓D2,push_cast,Nat.reduceLT,Nat.reduceAdd]) ?_
  simp (maxSteps:=10^6) only[s39,push_cast,Nat.reduceAdd]
  obtain⟨Js,hJs⟩:∃Js,Js=Gs++[⟨.slice A2 Q1.length cap2,Q1.length,Q1.flatMap prV⟩]:=⟨_,rfl⟩
  rw[←hJs]
  refine Bh (ι:=Nat) (fun i=>⟨[(0,.x (.a (.p 0 0))),(4,.x (.a (.p 4 0))),(5,.x (.a (.p 5 0))),(6,.x (.a (.o 7))),(81,.x (.a (.o 8))),(82,.x (.a (.v (.int .i64 Q2.length)))),(83,.x (.a (.v (.int .i64 i))))],
   [.pin g 120 (.c [.v (.int .i64 r.place),.v (.int .i64 r.dim),.v r.spots.val,.o 1,.o 2]),.mp .i64 (iE r.heard),.mp .i64 (mgE r.taken),.abs (Aa Js),.blk 48 (.c (mgA zeroR)),.blk 48 (.c (mgS m (.o 9) (.v (.slice A2 Q1.length cap2)))),.own 3 (.i64 F),.own 46 (.c ((D3 r F).map fun x=>.v x.val)),.onn 131 2 (.c (vC (Q2.flatMap paV))),.own 41 (.u64 (nmP (Q2.take i)))]⟩)
   (fun i=>i≤Q2.length) (fun i=>Q2.length - i) 0 [0,1,2,3,4,5,6,7,8,10] (Nat.zero_le _) ?_ ?_
  ·simp (maxSteps:=10^6) only[Bd,A4q,↓List.forall_mem_cons,↓Ao,↓A7,↓D2,↓Li,push_cast,↓Int.cast_ofNat_Int,Int.cast_ofNat_Int,↓reduceIte,reduceCtorEq,Nat.reduceEqDiff,Nat.reduceLT,Nat.reduceAdd]
  intro i hi
  by_cases hqt:(i:Int) < Q2.length
  ·have il:i < Q2.length:=by omega
   have i0:(0:Int)≤i:=by omega
   have pp:=A4o il
   have i2':i*2+2≤(Q2.flatMap paV).length:=by rw[Cd Iy];omega
   simp (maxSteps:=10^6) only[hqt,i0,pp,lm,q39,ql3,Ho,undef,↓List.forall_mem_cons,↓Ao,↓D2,push_cast,↓Int.toNat_natCast,↓Int.cast_ofNat_Int,Int.cast_ofNat_Int,↓reduceIte,reduceCtorEq,Nat.reduceEqDiff,Nat.reduceLT,Nat.reduceLeDiff,Nat.reduceAdd,Int.reduceNeg,Int.reduceLE,Int.reduceLT,Int.reduceToNat]
   (repeat (refine And.intro (by first|omega|decide) ?_))
   have nl:=A4p (Q2.take i)
   rw[List.length_take] at nl
   have en:nmP (Q2.take (i+1))=nmP (Q2.take i)++[(ix Q2 i).1,(ix Q2 i).2]:=by
    rw[Q8 il]
    unfold nmP
    rw[List.flatMap_append]
    rfl
   refine⟨⟨by omega,by omega⟩,⟨by omega,by omega⟩,?_⟩
   refine Be (i+1) [0,1,2,3,4,5,6,7,8,12] (by omega) (by omega) ?_
   have e2:ix [(ix Q2 i).1,(ix Q2 i).2] 0=(ix Q2 i).1∧ix [(ix Q2 i).1,(ix Q2 i).2] 1=(ix Q2 i).2:=⟨rfl,rfl⟩
   obtain⟨e2a,e2b⟩:=e2
   simp (maxSteps:=10^6) only[en,e2a,e2b,s39,Bd,↓List.forall_mem_cons,↓Ao,↓A7,↓D2,↓Li,push_cast,↓reduceIte,reduceCtorEq,Nat.reduceEqDiff,Nat.reduceLT,Nat.reduceAdd]
  ·obtain rfl:i=Q2.length:=by omega
   rw[List.take_length]
   simp (maxSteps:=10^6) only[hqt,undef,push_cast,↓reduceIte,reduceCtorEq,Nat.reduceEqDiff,Nat.reduceLT,Nat.reduceAdd]
   (repeat (refine And.intro (by first|omega|decide) ?_))
   obtain⟨N,hN⟩:∃N,N=nmP Q2:=⟨_,rfl⟩
   rw[←hN]
   refine A4l 9 3 (vs:=N.map vU64) rfl (fun _=>rfl) rfl (by decide) fun A3 cap3 b3 _=>?_
   rw[List.length_map] at b3
   simp (maxSteps:=10^6) only[Gp,Ij,Res.sub,Cont.sub,Sv.sub,Sc.sub,At.sub,Qn,Qo,Um,Ty,List.length_map,Up,Abd,push_cast,↓reduceIte,Nat.reduceEqDiff]
   have hrq:∀q∈F,(tqR r q).xs.l.length=n∧MgF (tqR r q) w B:=fun q hq=>by
    obtain⟨t,h1,h2⟩:=M4 (r:=r) (q:=q) (by rw[←hF];exact hq)
    unfold tqR
    rw[h1]
    exact⟨(hr _ h2).1,Hu (ok.taken _ h2) hw⟩
   have es:=A4s r n hd fun q hq=>(hrq q (by rw[hF];exact hq)).1
   rw[←hF] at es
   obtain⟨X,hX⟩:∃X,X=Fe r.s:=⟨_,rfl⟩
   rw[←hX] at es
   have hvs:=fun (hp:List Res) (h7:hp[7]?=some (.own 46 (.c ((D3 r F).map fun r=>.v r.val))))=>A4t (w0:=w) (ow:=B) (hp:=hp) (k:=7) (D3 r F) n hn (by unfold D3;rw[List.length_map];omega) h7 fun γ' w' hS' i hi=>by
    have hm:=Dr hi
    obtain⟨q,hq,e⟩:=List.mem_map.1 hm
    rw[←e]
    exact⟨(hrq q hq).1,((hrq q hq).2.ok hS').xs.rd⟩
   rw[es,←hd] at hvs
   refine J4 (ι:=Option Addr×Nat) (fun x=>X.length≤x.2) (fun x=>.t [.a (.v (.slice x.1 X.length x.2)),.a (.v .nilIface)]) (fun x=>[⟨.slice x.1 X.length x.2,X.length,X.map Ap⟩]) 3 rfl rfl Awa rfl (hvs _ rfl) (fun _ _=>rfl) (Af rfl) (by simp (maxSteps:=10^6) only[Bd,↓List.forall_mem_cons,↓Ao,↓D2,push_cast,Nat.reduceLT,Nat.reduceAdd]) ?_
   rintro⟨A4,cap4⟩ b4
   dsimp only at b4
   obtain⟨m6,hm6⟩:∃m6:MgR,m6={m with xs:=⟨A4,cap4,X⟩,ns:=⟨A3,cap3,N⟩,ps:=⟨A2,cap2,Q1⟩}:=⟨_,rfl⟩
   have s41:(mgS m (.v (.slice A3 N.length cap3)) (.v (.slice A2 Q1.length cap2))).set 41 (.v (.slice A4 X.length cap4))=mgA m6:=by
    have h1:=(M2 zm (.v (.slice A3 N.length cap3)) (.v (.slice A2 Q1.length cap2))).2.2.2 ⟨A4,cap4,X⟩
    have h2:=A4f {m with xs:=⟨A4,cap4,X⟩} ⟨A3,cap3,N⟩ ⟨A2,cap2,Q1⟩
    rw[hm6]
    exact h1.trans h2
   have z6:m6.sm.length=32:=by rw[hm6];exact zm
   have l6:=Bo z6
   simp (maxSteps:=10^6) only[s41,l6,lm,Ck,undef,↓Cp,push_cast,↓reduceIte,reduceCtorEq,Nat.reduceEqDiff,Nat.reduceLT,Nat.reduceAdd]
   have hap:=A4r r
   rw[←hF] at hap
   obtain⟨p1,p2,p3⟩:=hap
   refine⟨(m6,Js++[⟨.slice A3 N.length cap3,N.length,N.map vU64⟩]++[⟨.slice A4 X.length cap4,X.length,X.map Ap⟩]),⟨?_,z6,?_,?_,?_,?_⟩,Fp [0,1,2,3] ?_⟩
   ·show m6.mg=_
    have e1:m6.mg=⟨r0.k,r0.pl,r0.ot,r0.cl,r0.ge,r0.nu,r0.sm,m.ids.l,N,Q1,X,r0.re⟩:=by
     rw[hm6]
     have h:=i2
     generalize m.ids=ii at*
     rw[h]
     rfl
    rw[e1,i3,p1,hN,hQ1,hQ2,p2,p3,hX,hr0]
    unfold nmP
    rfl
   ·show SlF _ m6.ids _
    rw[hm6]
    refine i4.more fun f hf=>?_
    rw[hJs]
    exact List.mem_append_left _ (List.mem_append_left _ (List.mem_append_left _ hf))
   ·show SlF _ m6.ns _
    rw[hm6]
    exact .inr (List.mem_append_left _ (List.mem_append_right _ (List.mem_singleton.2 rfl)))
   ·show SlF _ m6.ps _
    rw[hm6,hJs]
    exact .inr (List.mem_append_left _ (List.mem_append_left _ (List.mem_append_right _ (List.mem_singleton.2 rfl))))
   ·show SlF _ m6.xs _
    rw[hm6]
    exact .inr (List.mem_append_right _ (List.mem_singleton.2 rfl))
   ·simp (maxSteps:=10^6) only[↓List.forall_mem_cons,↓Bj,↓Zz,push_cast,↓reduceIte,reduceCtorEq,Nat.reduceEqDiff,Nat.reduceLT,Nat.reduceAdd]
end Go.Proofs.YtedaafmfjhjfmaaGreatDoor
