import Derived.Test.YtedaafmfjhjfmaaGreatDoorLn0
/- Layer 29 walked: All. -/
namespace Go.Proofs.YtedaafmfjhjfmaaGreatDoor
open _root_.Go.Proofs.Tryz
open Go.RowKit
set_option linter.unusedSimpArgs false
set_option linter.unusedVariables false
theorem Aek {r:SmR} {g:Nat} {M:List Res} {w0:World} {B:Nat→Prop} (hk:O5 r.taken):∀γ w,Sat w0 B γ (smB g r++M) w→Calls prog 31 (List.map (Sv.val γ) [.x (.a (.p 0 0))]).toArray w fun en w'=>∃v',en=.returned v'∧Own w' w.heap.size 3 v' (r.s.from_.map (Value.int .i64))∧Below w.heap.size w w':=fun γ w hS=>by
 obtain⟨_,hg,_⟩:=hS.holds 0 (.pin g 120 (.c (smA r))) rfl
 show Calls _ _ #[.pointer (some ⟨nmB γ 0,0,none⟩)] w _
 rw[hg]
 exact Aw8 hS hk
def tqR (r:SmR) (q:Int):MgR:=(Az r.taken q).getD zeroR
def Li (r:SmR) (l:List Int):List Int:=(l.map (tqR r)).foldl (fun a t=>Ak a t.ids.l) []
def Er (r:SmR) (l:List Int):List Rw:=l.map fun q=>Adz (tqR r q).xs
def Fc (r:SmR) (l:List Int):List Pr:=l.flatMap fun q=>(tqR r q).ps.l
def Dj (r:SmR) (l:List Int):List (UInt64×UInt64):=l.flatMap fun q=>Ct (tqR r q).ns.l
theorem W2 {α:Type} {w0:World} {ow:Nat→Prop} {hp:List Res} {kf:Nat} {Fs:List Fct} {s:SlV α} {vs:List Value} (hF:hp[kf]?=some (.abs (fctRep Fs))) (h:SlF Fs s vs) (h0:s=⟨none,0,[]⟩→vs=[]) (hn:vs.length=s.l.length):Bg w0 ow hp (.x (.a (.v s.val))) vs:=by
 rcases h with e|h
 ·rw[h0 e,e]
  exact Apn
 ·exact Adp hF h hn
theorem J3 {α β:Type} {f:α→List β} {K:Nat}:∀{l:List α},(∀x∈l,(f x).length≤K)→(l.flatMap f).length≤K*l.length
 |[],_=>Nat.zero_le _
 |a::l,h=>by
  have h1:=h a (List.mem_cons_self ..)
  have h2:=J3 (l:=l) fun x hx=>h x (List.mem_cons_of_mem _ hx)
  rw[List.flatMap_cons,List.length_append,List.length_cons,Nat.mul_succ]
  omega
theorem O7:∀l:List UInt64,(Ct l).length≤l.length
 |[]=>Nat.le_refl _
 |[_]=>Nat.zero_le _
 |a::b::r=>by
  have:=O7 r
  rw[Ct,List.length_cons,List.length_cons,List.length_cons]
  omega
theorem zPr:ZOk prog 115 (.c [.v (.int .i64 0),.v (.int .u64 0)]):=⟨.agg #[.int .i64 0,.int .u64 0],by kernel_rfl,fun _=>rfl⟩
theorem sPr:sz prog 115=2:=by kernel_rfl
theorem bPr:bz prog 115=16:=by kernel_rfl
theorem Axi (l:List Pr):∀v∈l.flatMap prV,v.oneCell'=true∧scalar v:=fun v hv=>by
 obtain⟨p,_,hp⟩:=List.mem_flatMap.1 hv
 simp only[prV,List.mem_cons,List.not_mem_nil,or_false] at hp
 rcases hp with rfl|rfl<;>exact⟨rfl,trivial⟩
theorem W3 (p:Pr):(prV p).length=2:=rfl
theorem J4 (p:UInt64×UInt64):(paV p).length=2:=rfl
theorem Ael:∀(a b:List UInt64),a.length % 2=0→Ct (a++b)=Ct a++Ct b
 |[],b,_=>rfl
 |[_],_,h=>by simp at h
 |x::y::a,b,h=>by
  have:=Ael a b (by simp only[List.length_cons] at h;omega)
  show (x,y)::Ct (a++b)=_
  rw[this]
  rfl
theorem Axj {L:List (UInt64×UInt64)} {i:Nat} (hi:i < L.length):((vC (L.flatMap paV)).drop (i*2)).take 2=[.v (vU64 (ix L i).1),.v (vU64 (ix L i).2)]:=by
 have hl:(vC (L.flatMap paV)).length=L.length*2:=by rw[Ib,Cv J4]
 have g:∀k,k < 2→(vC (L.flatMap paV))[i*2+k]?=some (.v ((paV (ix L i))[k]?.getD undef)):=fun k hk=>by
  unfold vC
  rw[List.getElem?_map,Jo J4 L i k hi hk]
  have:k < (paV (ix L i)).length:=hk
  rw[List.getElem?_eq_getElem this]
  rfl
 refine List.ext_getElem? fun k=>?_
 rw[List.getElem?_take]
 by_cases hk:k < 2
 ·rw[if_pos hk,List.getElem?_drop,g k hk]
  match k,hk with
  |0,_=>rfl
  |1,_=>rfl
 ·rw[if_neg hk,List.getElem?_eq_none (by show 2≤k;omega)]
theorem Tb {α:Type} [Inhabited α] {l:List α} {i:Nat} (h:i < l.length):l.take (i+1)=l.take i++[ix l i]:=by
 rw[List.take_add_one,List.getElem?_eq_getElem h]
 simp [ix,List.getD_eq_getElem?_getD,List.getElem?_eq_getElem h]
theorem O8 {r:SmR} {q:Int} (h:q∈r.s.from_):∃t,Az r.taken q=some t∧(q,t)∈r.taken:=by
 have h1:q∈r.s.taken.map (·.1):=(R3 r.s).mem_iff.1 h
 have h2:r.s.taken=Bw MgR.mg r.taken:=rfl
 rw[h2] at h1
 obtain⟨p,hp,e⟩:=List.mem_map.1 h1
 cases hm:Az r.taken q with
 |some t=>exact⟨t,rfl,Sp hm⟩
 |none=>
  unfold Bw at hp
  obtain⟨y,hy,rfl⟩:=List.mem_map.1 hp
  exact absurd e (V0 hm y hy)
def nmP (L:List (UInt64×UInt64)):List UInt64:=L.flatMap fun p=>[p.1,p.2]
theorem Axk (L:List (UInt64×UInt64)):(nmP L).length=L.length*2:=by
 unfold nmP
 induction L with
 |nil=>rfl
 |cons p L ih=>
  rw[List.flatMap_cons,List.length_append,ih]
  show 2+L.length*2=(L.length+1)*2
  omega
theorem Axl:nmP []=[]:=rfl
theorem O9 (r:SmR):r.s.msgs=r.s.from_.map fun q=>(tqR r q).mg:=by
 unfold Sms.msgs
 refine List.map_congr_left fun q hq=>?_
 obtain⟨t,h1,_⟩:=O8 hq
 show (Az (Bw MgR.mg r.taken) q).getD Fk=_
 unfold tqR
 rw[Oy,h1]
 rfl
theorem Axm (r:SmR):Li r r.s.from_=Mj r.s∧Fc r r.s.from_=r.s.msgs.flatMap (·.ps)∧Dj r r.s.from_=r.s.msgs.flatMap fun m=>Ct m.ns:=by
 refine⟨?_,?_,?_⟩
 ·unfold Li Mj
  rw[O9,List.foldl_map,List.foldl_map]
  rfl
 ·unfold Fc
  rw[O9,List.flatMap_map]
  rfl
 ·unfold Dj
  rw[O9,List.flatMap_map]
  rfl
theorem Axn (r:SmR) (n:Nat) (hd:r.dim=n) (h:∀q∈r.s.from_,(tqR r q).xs.l.length=n):B1 n ((Er r r.s.from_).map (·.l)) (Er r r.s.from_).length=Jv r.s:=by
 have e:(Er r r.s.from_).map (·.l)=r.s.msgs.map (·.xs):=by
  unfold Er
  rw[O9,List.map_map,List.map_map]
  rfl
 have hl:(Er r r.s.from_).length=(r.s.msgs.map (·.xs)).length:=by rw[←e,List.length_map]
 rw[hl,e,Ady n _ (fun x hx=>by
  rw[O9,List.map_map] at hx
  obtain⟨q,hq,rfl⟩:=List.mem_map.1 hx
  exact h q hq) _ (Nat.le_refl _),List.take_of_length_le (Nat.le_refl _),List.foldl_map]
 unfold Jv
 have hd:r.s.dim.toNat=n:=by
  show r.dim.toNat=n
  omega
 rw[hd]
theorem Axo {w0:World} {ow:Nat→Prop} {hp:List Res} {k:Nat} {e:TypeId} (R:List Rw) (n:Nat) (hn:n≤32) (hRl:R.length≤1000) (hr:hp[k]?=some (.own e (.c (R.map fun r=>.v r.val)))) (hk:∀γ w,Sat w0 ow γ hp w→∀i,i < R.length→(ix R i).l.length=n∧RdV w w.heap.size (ix R i).A ((ix R i).l.map Ap)):
  ∀γ w,Sat w0 ow γ hp w→Calls prog 84 (List.map (Sv.val γ) [.x (.a (.o k)),.x (.a (.v (.int .i64 n)))]).toArray w fun en w'=>∃(x:Option Addr×Nat) (γ1:List Nm),(B1 n (R.map (·.l)) R.length).length≤x.2∧en=.returned ((Sv.t [.a (.v (.slice x.1 (B1 n (R.map (·.l)) R.length).length x.2)),.a (.v .nilIface)]).val [])∧Sat w No γ1 [.abs (fctRep [⟨.slice x.1 (B1 n (R.map (·.l)) R.length).length x.2,(B1 n (R.map (·.l)) R.length).length,(B1 n (R.map (·.l)) R.length).map Ap⟩])] w':=fun γ w hS=>by
 obtain⟨A,c,h1,h2,h3,h4⟩:=hS.rdOwn hr
 have e1:(Cont.c (R.map fun r=>At.v r.val)).vals γ=R.map Rw.val:=by
  simp only[Cont.vals,List.map_map]
  rfl
 have e2:(Cont.c (R.map fun r=>At.v r.val)).len=R.length:=by simp [Cont.len]
 rw[e1] at h4
 rw[e2] at h1 h2
 show Calls _ _ #[nmS γ k,.int .i64 n] w _
 rw[h1]
 refine (Awc R n hn hRl A c w h4 (hk γ w hS)).mono fun en w' ⟨v',he,ho,hb⟩=>?_
 obtain⟨x,γ1,x1,x2,x3⟩:=W1 ho hb
 rw[List.length_map] at x1 x2 x3
 exact⟨x,γ1,x1.1,by rw[he,x2];rfl,x3⟩
attribute [local irreducible] Ac Ad Ah Au Ao Aj Ai Al
attribute [local irreducible] nmP B1 okV Bq Sms.may Sms.takeE mgS Sms.from_
set_option maxRecDepth 100000 in
set_option maxHeartbeats 2000000 in
theorem Axp (r:SmR) (ge:Int) {g n:Nat} {w:World} {B:Nat→Prop} {γ:List Nm} {Fs:List Fct} (hS:Sat w B γ (smB g r) w) (hw:Known w B Fs) (ok:SmOk Fs r) (hk:O5 r.taken) (hd:r.dim=n) (hn:n≤32) (hr:∀t∈r.taken,t.2.xs.l.length=n∧t.2.ns.l.length % 2=0∧0 < t.2.ps.l.length) (hfew:r.taken.length≤30):
  Calls prog 28 (List.map (Sv.val (γ++[.m (.bool true) (fun _=>False)])) [.x (.a (.p 0 0)),.x (.a (.v (.int .i64 ge)))]).toArray w fun e w'=>∃(x:MgR×List Fct) (γ1:List Nm),(x.1.mg=r.s.all ge∧MW x.2 x.1)∧e=.returned ((Sv.x (.g (mgA x.1))).val γ1)∧Sat w B γ1 (smB g r++[.abs (fctRep x.2)]) w':=by
 refine Cy (n:=108) (ι:=MgR×List Fct) (fun x=>x.1.mg=r.s.all ge∧MW x.2 x.1) (fun x=>.x (.g (mgA x.1))) (fun x=>smB g r++[.abs (fctRep x.2)]) func28 rfl ntmps28 [.x (.a (.p 0 0)),.x (.a (.v (.int .i64 ge)))] (hS.fct0 (by unfold smB smA;simp (maxSteps:=10^6) only[↓List.forall_mem_cons,push_cast,Nat.reduceLT,Nat.reduceAdd])) (by simp) ?_
 unfold smB smA
 obtain⟨r0,hr0⟩:∃r0:MgR,r0=⟨6,r.place,0,0,ge,0,List.replicate 32 0,default,default,default,default,0⟩:=⟨_,rfl⟩
 have as_:(((mgA zeroR).set 0 (.v (.int .u8 6))).set 1 (.v (.int .i64 r.place))).set 4 (.v (.int .i64 ge))=mgA r0:=by rw[hr0];rfl
 have z0:r0.sm.length=32:=by rw[hr0];rfl
 have l0:=Bd z0
 have dz:(mgA zeroR).drop 43=[]:=rfl
 have zb:=fun n=>Bm zeroR n
 simp only[At.bnd] at zb
 have zb0:=fun n=>Bm r0 n
 simp only[At.bnd] at zb0
 simp (maxSteps:=10^6) only[as_,l0,Bo,B9,Br,B0,undef,↓List.forall_mem_cons,↓mgA_one,↓Ag,↓A8,push_cast,↓reduceIte,reduceCtorEq,Nat.reduceEqDiff,Nat.reduceLT,Nat.reduceAdd]
 (repeat (refine And.intro (by first|omega|decide) ?_))
 refine Gl rfl Aar rfl (Ip (c:=.i64 r.s.from_) (by simp (maxSteps:=10^6) only[↓List.forall_mem_cons,↓Ag,push_cast,Nat.reduceLT,Nat.reduceAdd]) trivial (Aek (g:=g) (M:=[.abs (fctRep []),.blk 48 (.c (mgA zeroR)),.blk 48 (.c (mgA r0))]) hk)) (Aa rfl) (by simp (maxSteps:=10^6) only[↓List.forall_mem_cons,↓Ag,↓A8,push_cast,Nat.reduceLT,Nat.reduceAdd]) ?_
 obtain⟨F,hF⟩:∃F,F=r.s.from_:=⟨_,rfl⟩
 rw[←hF]
 simp (maxSteps:=10^6) only[push_cast,↓reduceIte,Nat.reduceLT,Nat.reduceAdd]
 refine L8 6 46 (.c []) rfl rfl (by simp [Cont.bnd]) (by simp (maxSteps:=10^6) only[↓List.forall_mem_cons,↓Ag,↓A8,push_cast,Nat.reduceLT,Nat.reduceAdd]) ?_
 refine N7 7 131 2 (.c []) (by omega) rfl rfl (by simp (maxSteps:=10^6) only[zb0,↓List.forall_mem_cons,↓List.forall_mem_append,↓Ag,push_cast,Nat.reduceLT,Nat.reduceAdd]) ?_
 have g40:(mgA r0)[40]?=some (.v (.slice none 0 0)):=by rw[hr0];rfl
 refine Sg 5 40 48 115 2 (mgA r0) (.c []) (by omega) (by simp (maxSteps:=10^6) only[push_cast]) g40 rfl (by simp (maxSteps:=10^6) only[zb0,↓List.forall_mem_cons,↓List.forall_mem_append,↓Ag,push_cast,Nat.reduceLT,Nat.reduceAdd]) ?_
 have e40:∀y,(mgA r0).set 40 y=mgS r0 (.v (.slice none 0 0)) y:=fun y=>by
  have:=(O6 z0 (.v r0.ns.val) (.v r0.ps.val)).2.2.1 y
  rw[←Axb] at this
  rw[this,hr0]
  rfl
 simp (maxSteps:=10^6) only[e40,push_cast,Nat.reduceAdd]
 have hFl:F.length=r.taken.length:=by
  rw[hF,(R3 r.s).length_eq,List.length_map]
  show (Bw MgR.mg r.taken).length=_
  unfold Bw
  rw[List.length_map]
 refine Bj (ι:=Nat×MgR×List Fct) (fun x=>⟨[(0,.x (.a (.p 0 0))),(4,.x (.a (.p 4 0))),(5,.x (.a (.p 5 0))),(6,.x (.a (.o 7))),(7,.x (.a (.o 8))),(24,.x (.a (.o 6))),(25,.x (.a (.v (.int .i64 F.length)))),(26,.x (.a (.v (.int .i64 (x.1:Nat)))))],
  [.pin g 120 (.c [.v (.int .i64 r.place),.v (.int .i64 r.dim),.v r.spots.val,.o 1,.o 2]),.mp .i64 (iE r.heard),.mp .i64 (mgE r.taken),.abs (fctRep x.2.2),.blk 48 (.c (mgA zeroR)),.blk 48 (.c (mgS x.2.1 (.v (.slice none 0 0)) (.o 9))),.own 3 (.i64 F),.own 46 (.c ((Er r (F.take x.1)).map fun x=>.v x.val)),.onn 131 2 (.c (vC ((Dj r (F.take x.1)).flatMap paV))),.onn 115 2 (.c (vC ((Fc r (F.take x.1)).flatMap prV)))]⟩)
  (fun x=>x.1≤F.length∧x.2.1={r0 with ids:=x.2.1.ids}∧x.2.1.ids.l=Li r (F.take x.1)∧SlF x.2.2 x.2.1.ids (x.2.1.ids.l.map (Value.int .i64))) (fun x=>F.length - x.1) (0,r0,[]) [0,1,2,3,4,5,6,7,8,9] ⟨Nat.zero_le _,rfl,by rw[hr0];rfl,.inl (by rw[hr0];rfl)⟩ ?_ ?_
 ·simp (maxSteps:=10^6) only[↓List.forall_mem_cons,↓Ag,↓Ay,↓Ep,↓Mw,push_cast,↓Int.cast_ofNat_Int,Int.cast_ofNat_Int,↓reduceIte,reduceCtorEq,Nat.reduceEqDiff,Nat.reduceLT,Nat.reduceAdd]
  exact⟨rfl,rfl,rfl⟩
 rintro⟨i,m,Gs⟩ ⟨i1,i2,i3,i4⟩
 dsimp only at i1 i2 i3 i4
 have zm:m.sm.length=32:=by rw[i2];exact z0
 have lm:=W0 zm
 obtain⟨q38,q39,q40,q41⟩:(∀a b d,(mgS m a b).getD 38 d=.v m.ids.val)∧(∀a b d,(mgS m a b).getD 39 d=a)∧(∀a b d,(mgS m a b).getD 40 d=b)∧(∀a b d,(mgS m a b).getD 41 d=.v m.xs.val):=⟨fun a b=>(Mx zm a b).1,fun a b=>(Mx zm a b).2.1,fun a b=>(Mx zm a b).2.2.1,fun a b=>(Mx zm a b).2.2.2⟩
 by_cases hlt:(i:Int) < F.length
 ·have il:i < F.length:=by omega
  have i0:(0:Int)≤i:=by omega
  obtain⟨t,ht,htm⟩:=O8 (r:=r) (q:=ix F i) (by rw[←hF];exact Ez il)
  have lk:Co (mgE r.taken) (ix F i)=some (.g (mgA t)):=by rw[Adh,ht];rfl
  have okt:=ok.taken _ htm
  have mt:=Lh okt hw
  obtain⟨hrx,hrn,hrp⟩:=hr _ htm
  dsimp only at okt mt hrx hrn hrp
  have lt:=Bd okt.s
  obtain⟨_,_,_,_,_,_,t38,t39,t40,t41,_⟩:=C8 okt.s
  simp (maxSteps:=10^6) only[hlt,i0,il,lk,Wv,lt,lm,q38,t38,Bo,B9,Br,B0,undef,↓List.forall_mem_cons,↓mgA_one,↓Ag,↓A8,↓Ep,push_cast,↓Int.toNat_natCast,↓reduceIte,reduceCtorEq,Nat.reduceEqDiff,Nat.reduceLT,Nat.reduceAdd]
  (repeat (refine And.intro (by first|omega|decide) ?_))
  have hidl:(Li r (F.take i)).length≤1000000:=by
   have:∀(l:List MgR) (a:List Int),a.length≤64→(l.foldl (fun a t=>Ak a t.ids.l) a).length≤64:=fun l=>by
    induction l with
    |nil=>exact fun a h=>h
    |cons x l ih=>exact fun a _=>ih _ (Aco _ _)
   have:=this ((F.take i).map (tqR r)) [] (by simp)
   unfold Li
   omega
  have htq:∀q∈F.take i,(tqR r q).ps.l.length≤1000∧(tqR r q).ns.l.length≤1000:=fun q hq=>by
   obtain⟨t,h1,h2⟩:=O8 (r:=r) (q:=q) (by rw[←hF];exact List.mem_of_mem_take hq)
   unfold tqR
   rw[h1]
   exact⟨(ok.taken _ h2).few.ps,(ok.taken _ h2).few.ns⟩
  have hti:(F.take i).length=i:=by rw[List.length_take];omega
  have pfew:(Fc r (F.take i)).length≤30000:=by
   have:=J3 (f:=fun q=>(tqR r q).ps.l) (K:=1000) (l:=F.take i) fun q hq=>(htq q hq).1
   unfold Fc
   omega
  have nfew:(Dj r (F.take i)).length≤30000:=by
   have:=J3 (f:=fun q=>Ct (tqR r q).ns.l) (K:=1000) (l:=F.take i) fun q hq=>Nat.le_trans (O7 _) (htq q hq).2
   unfold Dj
   omega
  have mtp:t.ps.l.length≤1000:=mt.few.ps
  refine Ic 3 (vs:=(Ak m.ids.l t.ids.l).map (Value.int .i64)) rfl rfl Nz rfl (Aeh (a:=m.ids.l) (b:=t.ids.l) (by rw[i3];exact hidl) (Nat.le_trans mt.few.ids (by omega)) (W2 (kf:=3) rfl i4 (fun e=>by rw[e];rfl) (by rw[List.length_map])) (Dq mt.ids.2 _ _ (by simp) mt.ids.1)) (Aa rfl) (by simp (maxSteps:=10^6) only[C6,↓List.forall_mem_cons,↓Ag,↓A8,↓Ep,push_cast,Nat.reduceLT,Nat.reduceAdd]) ?_
  intro A1 cap1 b1 _
  rw[List.length_map] at b1
  obtain⟨m1,hm1⟩:∃m1:MgR,m1={m with ids:=⟨A1,cap1,Ak m.ids.l t.ids.l⟩}:=⟨_,rfl⟩
  have s1:∀a b,(mgS m a b).set 38 (.v (.slice A1 (Ak m.ids.l t.ids.l).length cap1))=mgS m1 a b:=fun a b=>by
   rw[hm1]
   exact (O6 zm a b).1 ⟨A1,cap1,Ak m.ids.l t.ids.l⟩
  have zm1:m1.sm.length=32:=by rw[hm1];exact zm
  have lm1:=W0 zm1
  have q401:∀a b d,(mgS m1 a b).getD 40 d=b:=fun a b=>(Mx zm1 a b).2.2.1
  simp (maxSteps:=10^6) only[s1,lm1,q401,List.length_map,lm,lt,t40,undef,push_cast,↓reduceIte,reduceCtorEq,Nat.reduceEqDiff,Nat.reduceLT,Nat.reduceAdd]
  (repeat (refine And.intro (by first|omega|decide) ?_))
  have pl2:(vC ((Fc r (F.take i)).flatMap prV)).length / 2=(Fc r (F.take i)).length:=by
   rw[Ib,Cv W3]
   omega
  refine Aw9 (k:=9) (m:=2) (nd:=t.ps.l.length) (cp:=t.ps.c) (e:=115) (A:=t.ps.A) (vs:=t.ps.l.flatMap prV) rfl rfl rfl rfl underlying45 (by omega) (Cv W3 _) hrp (Axi _) sPr rfl zPr (by rw[pl2,bPr];omega) (by rw[pl2];unfold maxLen;omega) (fun γ' w' hS'=>?_) (Aa rfl) (by simp (maxSteps:=10^6) only[C6,↓List.forall_mem_cons,↓Ag,↓A8,↓Ep,push_cast,Nat.reduceLT,Nat.reduceAdd]) ?_
  ·obtain⟨A',c',e,_,h3⟩:=Dq mt.ps.2 (pvs t.ps.l).length (pvs t.ps.l).length rfl (Nat.le_refl _) γ' w' hS'
   have e:Value.slice t.ps.A (pvs t.ps.l).length (pvs t.ps.l).length=.slice A' (pvs t.ps.l).length c':=e
   injection e with e1 _ _
   subst e1
   exact h3
  have s40:∀a b y,(mgS m1 a b).set 40 y=mgS m1 a y:=fun a b=>(O6 zm1 a b).2.2.1
  have hrl:(Er r (F.take i)).length=i:=by unfold Er;rw[List.length_map,hti]
  have b8:(i+1)*24≤140737488355328:=by omega
  have b9:i+1≤2 ^ 63 - 1:=by omega
  have vx:t.xs.val=.slice t.xs.A t.xs.l.length t.xs.c:=rfl
  have vn:t.ns.val=.slice t.ns.A t.ns.l.length t.ns.c:=rfl
  simp (maxSteps:=10^6) only[s40,lm1,hrl,b8,b9,List.length_map,lt,t41,undef,↓List.forall_mem_cons,↓List.forall_mem_append,↓Ag,↓A8,↓Ep,push_cast,↓reduceIte,reduceCtorEq,Nat.reduceEqDiff,Nat.reduceLT,Nat.reduceLeDiff,Nat.reduceAdd]
  refine⟨trivial,rfl,?_⟩
  have et:tqR r (ix F i)=t:=by
   unfold tqR
   rw[ht]
   rfl
  have tk:=Tb il
  have er:(Er r (F.take (i+1))).map (fun x=>At.v x.val)=(Er r (F.take i)).map (fun x=>At.v x.val)++[.v t.xs.val]:=by
   unfold Er
   rw[tk,List.map_append,List.map_append,List.map_cons,List.map_nil,et]
   rfl
  have ep:vC ((Fc r (F.take (i+1))).flatMap prV)=vC ((Fc r (F.take i)).flatMap prV)++vC (t.ps.l.flatMap prV):=by
   unfold Fc
   rw[tk,List.flatMap_append,List.flatMap_cons,List.flatMap_nil,List.append_nil,et,List.flatMap_append,Ov]
  have ea:Dj r (F.take (i+1))=Dj r (F.take i)++Ct t.ns.l:=by
   unfold Dj
   rw[tk,List.flatMap_append,List.flatMap_cons,List.flatMap_nil,List.append_nil,et]
  have eid:Ak m.ids.l t.ids.l=Li r (F.take (i+1)):=by
   unfold Li at i3 ⊢
   rw[tk,List.map_append,List.foldl_append,i3,List.map_cons,List.map_nil,List.foldl_cons,List.foldl_nil,et]
  rw[←er,←ep]
  obtain⟨Hs,hHs⟩:∃Hs,Hs=Gs++[⟨.slice A1 (Ak m.ids.l t.ids.l).length cap1,(Ak m.ids.l t.ids.l).length,(Ak m.ids.l t.ids.l).map (Value.int .i64)⟩]:=⟨_,rfl⟩
  rw[←hHs]
  refine Bj (ι:=Nat) (fun j=>⟨[(0,.x (.a (.p 0 0))),(4,.x (.a (.p 4 0))),(5,.x (.a (.p 5 0))),(6,.x (.a (.o 7))),(7,.x (.a (.o 8))),(10,.x (.a (.p 10 0))),(11,.x (.a (.v (.int .i64 (j:Nat))))),(24,.x (.a (.o 6))),(25,.x (.a (.v (.int .i64 F.length)))),(26,.x (.a (.v (.int .i64 i))))],
   [.pin g 120 (.c [.v (.int .i64 r.place),.v (.int .i64 r.dim),.v r.spots.val,.o 1,.o 2]),.mp .i64 (iE r.heard),.mp .i64 (mgE r.taken),.abs (fctRep Hs),.blk 48 (.c (mgA zeroR)),.blk 48 (.c (mgS m1 (.v (.slice none 0 0)) (.o 9))),.own 3 (.i64 F),.own 46 (.c ((Er r (F.take (i+1))).map fun x=>.v x.val)),.onn 131 2 (.c (vC ((Dj r (F.take i)++Ct (t.ns.l.take j)).flatMap paV))),.onn 115 2 (.c (vC ((Fc r (F.take (i+1))).flatMap prV))),.blk 48 (.c (mgA t))]⟩)
   (fun j=>j % 2=0∧j≤t.ns.l.length) (fun j=>t.ns.l.length - j) 0 [0,1,2,3,4,5,6,13,8,11,10] ⟨rfl,Nat.zero_le _⟩ ?_ ?_
  ·simp (maxSteps:=10^6) only[List.take_zero,show Ct []=[] from rfl,List.append_nil,↓List.forall_mem_cons,↓Ag,↓Ay,↓Ep,↓Mw,push_cast,↓Int.cast_ofNat_Int,Int.cast_ofNat_Int,↓reduceIte,reduceCtorEq,Nat.reduceEqDiff,Nat.reduceLT,Nat.reduceAdd]
  rintro j ⟨j1,j2⟩
  by_cases hjt:(j:Int) < t.ns.l.length
  ·have jl:j < t.ns.l.length:=by omega
   have jl1:j+1 < t.ns.l.length:=by omega
   have j0:(0:Int)≤j:=by omega
   have j0':(0:Int)≤(j:Int)+1:=by omega
   have j1':(j:Int)+1 < t.ns.l.length:=by omega
   have jn:((j:Int)+1).toNat=j+1:=by omega
   have fewn:t.ns.l.length≤1000:=mt.few.ns
   have r1a:-9223372036854775808≤(j:Int)+1:=by omega
   have r1b:(j:Int)+1≤9223372036854775807:=by omega
   have r2a:-9223372036854775808≤(j:Int)+2:=by omega
   have r2b:(j:Int)+2≤9223372036854775807:=by omega
   have N:=FM.fw mt.ns.2
   have N0:=N.cell j jl
   have O0:=N.ok j jl
   have N1:=N.cell (j+1) jl1
   have O1:=N.ok (j+1) jl1
   have hA:=N.some_ (by omega)
   have epn:Ct (t.ns.l.take (j+2))=Ct (t.ns.l.take j)++[(ix t.ns.l j,ix t.ns.l (j+1))]:=by
    rw[show j+2=(j+1)+1 from rfl,Tb jl1,Tb jl,List.append_assoc,Ael _ _ (by rw[List.length_take];omega)]
    rfl
   generalize ix t.ns.l j=x at*
   generalize ix t.ns.l (j+1)=y at*
   simp (maxSteps:=10^6) only[hjt,t39,lt,vn,undef,push_cast,↓reduceIte,reduceCtorEq,Nat.reduceEqDiff,Nat.reduceLT,Nat.reduceAdd]
   refine Ha 14 [(0,true),(1,true),(2,true),(3,true),(4,true),(5,true),(6,true),(7,true),(8,true),(9,true),(10,true),(11,true),(12,true),(13,false)] (by kernel_rfl) (by kernel_rfl) ?_
   simp (maxSteps:=10^6) only[hjt,t39,lt,vn,j0,j0',j1',jn,r1a,r1b,N0,O0,N1,O1,hA,undef,push_cast,↓Int.toNat_natCast,↓reduceIte,reduceCtorEq,Nat.reduceEqDiff,Nat.reduceLT,Nat.reduceAdd,Int.reduceNeg]
   have pl3:(vC ((Dj r (F.take i)++Ct (t.ns.l.take j)).flatMap paV)).length=(Dj r (F.take i)++Ct (t.ns.l.take j)).length*2:=by rw[Ib,Cv J4]
   have pl4:(Dj r (F.take i)++Ct (t.ns.l.take j)).length≤31000:=by
    have:=O7 (t.ns.l.take j)
    rw[List.length_take] at this
    rw[List.length_append]
    omega
   refine Axa 72 [x,y] (by simp (maxSteps:=10^6) only[push_cast,↓reduceIte]) ?_
   simp (maxSteps:=10^6) only[↓List.forall_mem_cons,↓Ag,↓Ep,push_cast,↓reduceIte,reduceCtorEq,Nat.reduceEqDiff,Nat.reduceLT,Nat.reduceLeDiff,Nat.reduceAdd,Nat.reduceMul,Int.reduceNeg]
   have fl:=Cv J4 (Dj r (F.take i)++Ct (t.ns.l.take j))
   have ev:vC ((Dj r (F.take i)++Ct (t.ns.l.take (j+2))).flatMap paV)=vC ((Dj r (F.take i)++Ct (t.ns.l.take j)).flatMap paV)++[.v (vU64 x),.v (vU64 y)]:=by
    rw[epn,←List.append_assoc,List.flatMap_append,Ov]
    rfl
   refine⟨⟨⟨by rw[fl];omega,by rw[fl];omega⟩,of_eq_true (Bm zeroR 12),(Aee m1 (.v (.slice none 0 0)) (.o 9) 12).mpr ⟨trivial,by show 9 < 12;omega⟩,of_eq_true (Bm t 12)⟩,⟨r2a,r2b⟩,?_⟩
   refine Ba (j+2) [0,1,2,3,4,5,6,7,12,9,10] ⟨by omega,by omega⟩ (by omega) ?_
   simp (maxSteps:=10^6) only[ev,C6,↓List.forall_mem_cons,↓List.forall_mem_append,↓Ag,↓Ay,↓Ep,↓Mw,push_cast,↓reduceIte,reduceCtorEq,Nat.reduceEqDiff,Nat.reduceLT,Nat.reduceAdd]
   omega
  ·obtain rfl:j=t.ns.l.length:=by omega
   have nx1:-9223372036854775808≤(i:Int)+1:=by omega
   have nx2:(i:Int)+1≤9223372036854775807:=by omega
   rw[List.take_length,←ea]
   simp (maxSteps:=10^6) only[hjt,nx1,nx2,t39,lt,vn,undef,push_cast,↓reduceIte,reduceCtorEq,Nat.reduceEqDiff,Nat.reduceLT,Nat.reduceAdd,Int.reduceNeg]
   refine Ba (i+1,m1,Hs) [0,1,2,3,4,5,6,7,8,9] ⟨by show i+1≤_;omega,by rw[hm1,i2],by rw[hm1];exact eid,?_⟩ (by show F.length - (i+1) < F.length - i;omega) ?_
   ·rw[hHs,hm1]
    exact .inr (List.mem_append_right _ (List.mem_singleton.2 rfl))
   ·simp (maxSteps:=10^6) only[C6,↓List.forall_mem_cons,↓Ag,↓Ay,↓Ep,↓Mw,push_cast,↓reduceIte,reduceCtorEq,Nat.reduceEqDiff,Nat.reduceLT,Nat.reduceAdd]
 ·obtain rfl:i=F.length:=by omega
  rw[List.take_length] at*
  simp (maxSteps:=10^6) only[hlt,lm,q40,undef,push_cast,↓reduceIte,reduceCtorEq,Nat.reduceEqDiff,Nat.reduceLT,Nat.reduceAdd]
  (repeat (refine And.intro (by first|omega|decide) ?_))
  have htq:∀q∈F,(tqR r q).ps.l.length≤1000∧(tqR r q).ns.l.length≤1000:=fun q hq=>by
   obtain⟨t,h1,h2⟩:=O8 (r:=r) (q:=q) (by rw[←hF];exact hq)
   unfold tqR
   rw[h1]
   exact⟨(ok.taken _ h2).few.ps,(ok.taken _ h2).few.ns⟩
  have pfew:(Fc r F).length≤30000:=by
   have:=J3 (f:=fun q=>(tqR r q).ps.l) (K:=1000) (l:=F) fun q hq=>(htq q hq).1
   unfold Fc
   omega
  have nfew:(Dj r F).length≤30000:=by
   have:=J3 (f:=fun q=>Ct (tqR r q).ns.l) (K:=1000) (l:=F) fun q hq=>Nat.le_trans (O7 _) (htq q hq).2
   unfold Dj
   omega
  refine Kq rfl Aoo rfl (Aw6 (k:=9) (L:=Fc r F) rfl (by omega)) (Aa rfl) (fun _=>by simp (maxSteps:=10^6) only[C6,↓List.forall_mem_cons,↓Ag,↓Ep,push_cast,Nat.reduceLT,Nat.reduceAdd]) ?_
  obtain⟨Q1,hQ1⟩:∃Q1,Q1=D5 prK (Fc r F):=⟨_,rfl⟩
  obtain⟨Q2,hQ2⟩:∃Q2,Q2=D5 paK (Dj r F):=⟨_,rfl⟩
  rw[←hQ1]
  simp (maxSteps:=10^6) only[push_cast,↓reduceIte,reduceCtorEq,Nat.reduceEqDiff,Nat.reduceLT,Nat.reduceAdd]
  (repeat (refine And.intro (by first|omega|decide) ?_))
  refine Aeg 9 3 Q1.length (vs:=Q1.flatMap prV) rfl (fun γ=>Jy γ _) (Cv W3 _) rfl (by decide) fun A2 cap2=>?_
  simp (maxSteps:=10^6) only[Dn,Ex,Res.sub,Cont.sub,Sv.sub,Sc.sub,At.sub,Ie,If,Si,Vv,J0,Aef,push_cast,↓reduceIte,Nat.reduceEqDiff]
  refine Kq rfl Aop rfl (Aw7 (k:=8) (L:=Dj r F) rfl (by omega)) (Aa rfl) (fun _=>by simp (maxSteps:=10^6) only[C6,↓List.forall_mem_cons,↓Ag,↓Ep,push_cast,Nat.reduceLT,Nat.reduceAdd]) ?_
  rw[←hQ2]
  have hq2l:Q2.length=(Dj r F).length:=by rw[hQ2,Ta]
  have ql2:(vC (Q2.flatMap paV)).length / 2=Q2.length:=by
   rw[Ib,Cv J4]
   omega
  have hq2v:(vC (Q2.flatMap paV)).length=Q2.length*2:=by rw[Ib,Cv J4]
  have ql3:((Q2.flatMap paV).length:Int) / 2=Q2.length:=by
   rw[Cv J4]
   omega
  simp (maxSteps:=10^6) only[ql3,Ib,push_cast,↓Int.cast_ofNat_Int,Int.cast_ofNat_Int,↓reduceIte,reduceCtorEq,Nat.reduceEqDiff,Nat.reduceLT,Nat.reduceAdd]
  have s39:∀a b y,(mgS m a b).set 39 y=mgS m y b:=fun a b=>(O6 zm a b).2.1
  refine Abf 5 39 48 41 (mgS m (.v (.slice none 0 0)) (.v (.slice A2 Q1.length cap2))) (.u64 []) (by simp (maxSteps:=10^6) only[push_cast]) (Axf zm _ _) rfl trivial (by simp (maxSteps:=10^6) only[C6,↓List.forall_mem_cons,↓Ag,↓Ep,push_cast,Nat.reduceLT,Nat.reduceAdd]) ?_
  simp (maxSteps:=10^6) only[s39,push_cast,Nat.reduceAdd]
  obtain⟨Js,hJs⟩:∃Js,Js=Gs++[⟨.slice A2 Q1.length cap2,Q1.length,Q1.flatMap prV⟩]:=⟨_,rfl⟩
  rw[←hJs]
  refine Bj (ι:=Nat) (fun i=>⟨[(0,.x (.a (.p 0 0))),(4,.x (.a (.p 4 0))),(5,.x (.a (.p 5 0))),(6,.x (.a (.o 7))),(81,.x (.a (.o 8))),(82,.x (.a (.v (.int .i64 Q2.length)))),(83,.x (.a (.v (.int .i64 i))))],
   [.pin g 120 (.c [.v (.int .i64 r.place),.v (.int .i64 r.dim),.v r.spots.val,.o 1,.o 2]),.mp .i64 (iE r.heard),.mp .i64 (mgE r.taken),.abs (fctRep Js),.blk 48 (.c (mgA zeroR)),.blk 48 (.c (mgS m (.o 9) (.v (.slice A2 Q1.length cap2)))),.own 3 (.i64 F),.own 46 (.c ((Er r F).map fun x=>.v x.val)),.onn 131 2 (.c (vC (Q2.flatMap paV))),.own 41 (.u64 (nmP (Q2.take i)))]⟩)
   (fun i=>i≤Q2.length) (fun i=>Q2.length - i) 0 [0,1,2,3,4,5,6,7,8,10] (Nat.zero_le _) ?_ ?_
  ·simp (maxSteps:=10^6) only[C6,Axl,↓List.forall_mem_cons,↓Ag,↓Ay,↓Ep,↓Mw,push_cast,↓Int.cast_ofNat_Int,Int.cast_ofNat_Int,↓reduceIte,reduceCtorEq,Nat.reduceEqDiff,Nat.reduceLT,Nat.reduceAdd]
  intro i hi
  by_cases hqt:(i:Int) < Q2.length
  ·have il:i < Q2.length:=by omega
   have i0:(0:Int)≤i:=by omega
   have pp:=Axj il
   have i2':i*2+2≤(Q2.flatMap paV).length:=by rw[Cv J4];omega
   simp (maxSteps:=10^6) only[hqt,i0,pp,lm,q39,ql3,Ib,undef,↓List.forall_mem_cons,↓Ag,↓Ep,push_cast,↓Int.toNat_natCast,↓Int.cast_ofNat_Int,Int.cast_ofNat_Int,↓reduceIte,reduceCtorEq,Nat.reduceEqDiff,Nat.reduceLT,Nat.reduceLeDiff,Nat.reduceAdd,Int.reduceNeg,Int.reduceLE,Int.reduceLT,Int.reduceToNat]
   (repeat (refine And.intro (by first|omega|decide) ?_))
   have nl:=Axk (Q2.take i)
   rw[List.length_take] at nl
   have en:nmP (Q2.take (i+1))=nmP (Q2.take i)++[(ix Q2 i).1,(ix Q2 i).2]:=by
    rw[Tb il]
    unfold nmP
    rw[List.flatMap_append]
    rfl
   refine⟨⟨by omega,by omega⟩,⟨by omega,by omega⟩,?_⟩
   refine Ba (i+1) [0,1,2,3,4,5,6,7,8,12] (by omega) (by omega) ?_
   have e2:ix [(ix Q2 i).1,(ix Q2 i).2] 0=(ix Q2 i).1∧ix [(ix Q2 i).1,(ix Q2 i).2] 1=(ix Q2 i).2:=⟨rfl,rfl⟩
   obtain⟨e2a,e2b⟩:=e2
   simp (maxSteps:=10^6) only[en,e2a,e2b,s39,C6,↓List.forall_mem_cons,↓Ag,↓Ay,↓Ep,↓Mw,push_cast,↓reduceIte,reduceCtorEq,Nat.reduceEqDiff,Nat.reduceLT,Nat.reduceAdd]
  ·obtain rfl:i=Q2.length:=by omega
   rw[List.take_length]
   simp (maxSteps:=10^6) only[hqt,undef,push_cast,↓reduceIte,reduceCtorEq,Nat.reduceEqDiff,Nat.reduceLT,Nat.reduceAdd]
   (repeat (refine And.intro (by first|omega|decide) ?_))
   obtain⟨N,hN⟩:∃N,N=nmP Q2:=⟨_,rfl⟩
   rw[←hN]
   refine Aei 9 3 (vs:=N.map vU64) rfl (fun _=>rfl) rfl (by decide) fun A3 cap3 b3 _=>?_
   rw[List.length_map] at b3
   simp (maxSteps:=10^6) only[Dn,Ex,Res.sub,Cont.sub,Sv.sub,Sc.sub,At.sub,Ie,If,Si,Vv,List.length_map,J0,Aef,push_cast,↓reduceIte,Nat.reduceEqDiff]
   have hrq:∀q∈F,(tqR r q).xs.l.length=n∧MgF (tqR r q) w B:=fun q hq=>by
    obtain⟨t,h1,h2⟩:=O8 (r:=r) (q:=q) (by rw[←hF];exact hq)
    unfold tqR
    rw[h1]
    exact⟨(hr _ h2).1,Lh (ok.taken _ h2) hw⟩
   have es:=Axn r n hd fun q hq=>(hrq q (by rw[hF];exact hq)).1
   rw[←hF] at es
   obtain⟨X,hX⟩:∃X,X=Jv r.s:=⟨_,rfl⟩
   rw[←hX] at es
   have hvs:=fun (hp:List Res) (h7:hp[7]?=some (.own 46 (.c ((Er r F).map fun r=>.v r.val))))=>Axo (w0:=w) (ow:=B) (hp:=hp) (k:=7) (Er r F) n hn (by unfold Er;rw[List.length_map];omega) h7 fun γ' w' hS' i hi=>by
    have hm:=Ez hi
    obtain⟨q,hq,e⟩:=List.mem_map.1 hm
    rw[←e]
    exact⟨(hrq q hq).1,((hrq q hq).2.ok hS').xs.rd⟩
   rw[es,←hd] at hvs
   refine Jz (ι:=Option Addr×Nat) (fun x=>X.length≤x.2) (fun x=>.t [.a (.v (.slice x.1 X.length x.2)),.a (.v .nilIface)]) (fun x=>[⟨.slice x.1 X.length x.2,X.length,X.map Ap⟩]) 3 rfl rfl Aoq rfl (hvs _ rfl) (fun _ _=>rfl) (Aa rfl) (by simp (maxSteps:=10^6) only[C6,↓List.forall_mem_cons,↓Ag,↓Ep,push_cast,Nat.reduceLT,Nat.reduceAdd]) ?_
   rintro⟨A4,cap4⟩ b4
   dsimp only at b4
   obtain⟨m6,hm6⟩:∃m6:MgR,m6={m with xs:=⟨A4,cap4,X⟩,ns:=⟨A3,cap3,N⟩,ps:=⟨A2,cap2,Q1⟩}:=⟨_,rfl⟩
   have s41:(mgS m (.v (.slice A3 N.length cap3)) (.v (.slice A2 Q1.length cap2))).set 41 (.v (.slice A4 X.length cap4))=mgA m6:=by
    have h1:=(O6 zm (.v (.slice A3 N.length cap3)) (.v (.slice A2 Q1.length cap2))).2.2.2 ⟨A4,cap4,X⟩
    have h2:=Axc {m with xs:=⟨A4,cap4,X⟩} ⟨A3,cap3,N⟩ ⟨A2,cap2,Q1⟩
    rw[hm6]
    exact h1.trans h2
   have z6:m6.sm.length=32:=by rw[hm6];exact zm
   have l6:=Bd z6
   simp (maxSteps:=10^6) only[s41,l6,lm,B0,undef,↓mgA_one,push_cast,↓reduceIte,reduceCtorEq,Nat.reduceEqDiff,Nat.reduceLT,Nat.reduceAdd]
   have hap:=Axm r
   rw[←hF] at hap
   obtain⟨p1,p2,p3⟩:=hap
   refine⟨(m6,Js++[⟨.slice A3 N.length cap3,N.length,N.map vU64⟩]++[⟨.slice A4 X.length cap4,X.length,X.map Ap⟩]),⟨?_,z6,?_,?_,?_,?_⟩,A6 [0,1,2,3] ?_⟩
   ·show m6.mg=_
    have e1:m6.mg=⟨r0.k,r0.pl,r0.ot,r0.cl,r0.ge,r0.nu,r0.sm,m.ids.l,N,Q1,X,r0.re⟩:=by
     rw[hm6]
     have h:=i2
     generalize m.ids=ii at*
     rw[h]
     rfl
    rw[e1,i3,p1,hN,hQ1,hQ2,p2,p3,hX,hr0]
    unfold nmP
    rfl
   ·show SlF _ m6.ids _
    rw[hm6]
    refine i4.more fun f hf=>?_
    rw[hJs]
    exact List.mem_append_left _ (List.mem_append_left _ (List.mem_append_left _ hf))
   ·show SlF _ m6.ns _
    rw[hm6]
    exact .inr (List.mem_append_left _ (List.mem_append_right _ (List.mem_singleton.2 rfl)))
   ·show SlF _ m6.ps _
    rw[hm6,hJs]
    exact .inr (List.mem_append_left _ (List.mem_append_left _ (List.mem_append_right _ (List.mem_singleton.2 rfl))))
   ·show SlF _ m6.xs _
    rw[hm6]
    exact .inr (List.mem_append_right _ (List.mem_singleton.2 rfl))
   ·simp (maxSteps:=10^6) only[↓List.forall_mem_cons,↓A8,↓La,push_cast,↓reduceIte,reduceCtorEq,Nat.reduceEqDiff,Nat.reduceLT,Nat.reduceAdd]
end Go.Proofs.YtedaafmfjhjfmaaGreatDoor
