import Derived.Test.YtedaafmfjhjfmaaGreatDoorOpw
import Derived.Test.YtedaafmfjhjfmaaGreatDoorTs29
import Derived.Test.YtedaafmfjhjfmaaGreatDoorOpn
/- What opens who there is (layer 21's reference Conf), with how long its rows may be. -/
namespace Go.Proofs.YtedaafmfjhjfmaaGreatDoor
open Go.ChangeShapes Go.WideShapes Go.ChangeAt Go.WideMaps Go.WideElems Go.RowKit
instance:Inhabited (Int×Int×Int×Unit):=⟨(0,0,0,())⟩
section
variable {H:Type} {enc:TypeId×Value→H} {W:World}
set_option maxRecDepth 100000 in
theorem A6j:Opn enc Tryz.prog W 106 plV (fun _=>True):=fun fuel cs y h=>by
 obtain⟨⟨a,b,n,_⟩,h1,_⟩:=(Opn.struct (m:=3) Tryz.underlying106 (by kernel_rfl)
  (OpnF.cons (k:=1) rfl (by kernel_rfl) (Opn.i64 Tryz.underlying3) (OpnF.cons (k:=1) rfl (by kernel_rfl) (Opn.i64 Tryz.underlying3) (OpnF.cons (k:=1) rfl (by kernel_rfl) (Opn.i64 Tryz.underlying3) OpnF.nil)))) fuel cs y h
 exact⟨⟨a,b,n⟩,h1,trivial⟩
theorem A6k:Tryz.prog.bytesOf 3=8:=by kernel_rfl
theorem A6l:Tryz.prog.bytesOf 106=24:=by kernel_rfl
theorem A6m:Tryz.prog.bytesOf 87=40:=by kernel_rfl
set_option maxRecDepth 100000 in
theorem A6n:OpnW enc Tryz.prog W 87 grV (fun g:GrR=>g.ids.l.length≤g.ids.c∧g.ids.l.length*8≤140737488351232∧RdV W W.heap.size g.ids.A (g.ids.l.map (Value.int .i64))):=fun fuel cs y h hw=>by
 obtain⟨⟨a,s,n,_⟩,h1,_,⟨s1,s2,s3,_⟩,_⟩:=(OpnW.struct (m:=3) Tryz.underlying87 (by kernel_rfl)
  (OpnFW.cons (k:=1) rfl (by kernel_rfl) (Opn.i64 Tryz.underlying3).w (OpnFW.cons (k:=1) rfl (by kernel_rfl) (OpnW.ones Tryz.underlying43 (by kernel_rfl) (Opn.i64 Tryz.underlying3).w) (OpnFW.cons (k:=1) rfl (by kernel_rfl) (Opn.i64 Tryz.underlying3).w OpnFW.nil)))) fuel cs y h hw
 rw[A6k] at s2
 exact⟨⟨a,⟨s.A,s.c,s.l⟩,n⟩,h1,s1,s2,s3⟩
set_option maxRecDepth 100000 in
theorem A6o:OpnW enc Tryz.prog W 25 cfV (fun c:CfR=>c.Wide W):=fun fuel cs y h hw=>by
 obtain⟨⟨dim,ps,gs,least,term,_⟩,h1,_,⟨p1,p2,p3,_⟩,⟨g1,g2,g3,g4⟩,_⟩:=(OpnW.struct (m:=5) Tryz.underlying25 (by kernel_rfl)
  (OpnFW.cons (k:=1) rfl (by kernel_rfl) (Opn.i64 Tryz.underlying3).w (OpnFW.cons (k:=1) rfl (by kernel_rfl) (OpnW.slice (m:=3) Tryz.underlying22 (by kernel_rfl) (by omega) Jz A6j.w)
  (OpnFW.cons (k:=1) rfl (by kernel_rfl) (OpnW.slice (m:=3) Tryz.underlying23 (by kernel_rfl) (by omega) Iu A6n) (OpnFW.cons (k:=1) rfl (by kernel_rfl) (Opn.i64 Tryz.underlying3).w (OpnFW.cons (k:=1) rfl (by kernel_rfl) (Opn.i64 Tryz.underlying3).w OpnFW.nil)))))) fuel cs y h hw
 rw[A6l] at p2
 rw[A6m] at g2
 exact⟨⟨dim,⟨ps.A,ps.c,ps.l⟩,⟨gs.A,gs.c,gs.l⟩,least,term⟩,h1,⟨p1,p2,p3,g1,g2,g3,g4⟩⟩
set_option maxRecDepth 100000 in
theorem A6p {v:Value} {d:DataW H} {ps:List MemPlace} {r:Reach} {b:Nat} (hv:Value.okWide Tryz.prog W r b 25 v) (h:DataW.Trod enc Tryz.prog W 0 (fun _=>true) true 25 v d ps) (hw:∀n∈d.weights Tryz.prog 25,n≤reachBytes):
  ∃c:CfR,v=.agg (cfV c).toArray∧c.Wide W:=A6o.useS Tryz.underlying25 hv h hw
end
end Go.Proofs.YtedaafmfjhjfmaaGreatDoor
/- What opens law 29's arguments: a whole number, messages. -/
namespace Go.Proofs.YtedaafmfjhjfmaaGreatDoor
open Go.ChangeShapes Go.WideShapes Go.ChangeAt Go.WideMaps Go.WideElems Go.RowKit
section
variable {H:Type} {enc:TypeId×Value→H} {W:World}
set_option maxRecDepth 100000 in
theorem A6q:ArrKey Tryz.prog 42 5 32:=⟨Tryz.underlying42,by kernel_rfl,by kernel_rfl,by kernel_rfl⟩
set_option maxRecDepth 100000 in
theorem A6r {v:Value} {d:DataW H} {ps:List MemPlace} {r:Reach} {b:Nat} (hv:Value.okWide Tryz.prog W r b 5 v) (h:DataW.Trod enc Tryz.prog W 0 (fun _=>true) true 5 v d ps):∃x:UInt8,v=vU8 x:=by
 obtain⟨n,rfl,_,_,hw⟩:=open_int Tryz.underlying5 hv h
 obtain⟨l,h1,h2⟩:=u8s [n] (fun z hz=>by rw[List.mem_singleton.1 hz];exact hw)
 match l,h2 with
 |[x],_=>exact⟨x,by simpa using h1⟩
set_option maxRecDepth 100000 in
theorem A6s:Opn enc Tryz.prog W 163 pv (fun _=>True):=fun fuel cs y h=>by
 obtain⟨⟨a,b,_⟩,h1,_⟩:=(Opn.struct (m:=2) Tryz.underlying163 (by kernel_rfl) (OpnF.cons (k:=1) rfl (by kernel_rfl) (Opn.i64 Tryz.underlying3) (OpnF.cons (k:=1) rfl (by kernel_rfl) (Opn.u64 Tryz.underlying41) OpnF.nil))) fuel cs y h
 exact⟨(a,b),h1,trivial⟩
set_option maxRecDepth 100000 in
theorem A6t:Opn enc Tryz.prog W 52 mgV (fun m:MgR=>m.Wide W):=fun fuel cs y h=>by
 obtain⟨⟨k,pl,ot,cl,ge,nu,sm,ids,ns,ps,xs,re,_⟩,h1,_,_,_,_,_,_,hs,⟨i1,_,i3,_⟩,⟨n1,_,n3,_⟩,⟨p1,_,p3,_⟩,⟨x1,_,x3,_⟩,_⟩:=(Opn.struct (m:=43) Tryz.underlying52 (by kernel_rfl)
  (OpnF.cons (k:=1) rfl (by kernel_rfl) (Opn.u8 Tryz.underlying5) (OpnF.cons (k:=1) rfl (by kernel_rfl) (Opn.i64 Tryz.underlying3) (OpnF.cons (k:=1) rfl (by kernel_rfl) (Opn.i64 Tryz.underlying3) (OpnF.cons (k:=1) rfl (by kernel_rfl) (Opn.i64 Tryz.underlying3) (OpnF.cons (k:=1) rfl (by kernel_rfl) (Opn.i64 Tryz.underlying3) (OpnF.cons (k:=1) rfl (by kernel_rfl) (Opn.u64 Tryz.underlying41)
  (OpnF.cons (k:=32) rfl (by kernel_rfl) (Opn.arr8 A6q Tryz.underlying5) (OpnF.cons (k:=1) rfl (by kernel_rfl) (Opn.ones Tryz.underlying43 (by kernel_rfl) (Opn.i64 Tryz.underlying3)) (OpnF.cons (k:=1) rfl (by kernel_rfl) (Opn.ones Tryz.underlying44 (by kernel_rfl) (Opn.u64 Tryz.underlying41))
  (OpnF.cons (k:=1) rfl (by kernel_rfl) (Opn.slice (m:=2) Tryz.underlying50 (by kernel_rfl) (by omega) Po A6s) (OpnF.cons (k:=1) rfl (by kernel_rfl) (Opn.ones Tryz.underlying46 (by kernel_rfl) (Opn.u32 Tryz.underlying111)) (OpnF.cons (k:=1) rfl (by kernel_rfl) (Opn.i64 Tryz.underlying3) OpnF.nil))))))))))))) fuel cs y h
 refine⟨⟨k,pl,ot,cl,ge,nu,sm,⟨ids.A,ids.c,ids.l⟩,⟨ns.A,ns.c,ns.l⟩,⟨ps.A,ps.c,ps.l⟩,⟨xs.A,xs.c,xs.l⟩,re⟩,?_,⟨hs,⟨i1,i3⟩,⟨n1,n3⟩,⟨p1,p3⟩,⟨x1,x3⟩⟩⟩
 rw[h1]
 rfl
abbrev MgX:={m:MgR // m.sm.length=32}
instance:Inhabited MgX:=⟨⟨zeroR,rfl⟩⟩
theorem A6u:Opn enc Tryz.prog W 52 (fun x:MgX=>mgV x.1) (fun x=>x.1.Wide W):=fun fuel cs y h=>by
 obtain⟨m,h1,h2⟩:=A6t fuel cs y h
 exact⟨⟨m,h2.s⟩,h1,h2⟩
set_option maxRecDepth 100000 in
theorem A6v {v:Value} {d:DataW H} {ps:List MemPlace} {r:Reach} {b:Nat} (hv:Value.okWide Tryz.prog W r b 27 v) (h:DataW.Trod enc Tryz.prog W 0 (fun _=>true) true 27 v d ps):
  ∃(A:Option Addr) (c:Nat) (l:List MgR),v=.slice A l.length c∧l.length≤c∧RdV W W.heap.size A (l.flatMap mgV)∧∀m∈l,m.Wide W:=by
 obtain⟨⟨A,c,l⟩,h1,h2,_,h4,h5⟩:=(Opn.slice (m:=43) Tryz.underlying27 (by kernel_rfl) (by omega) (fun x:MgX=>H0 x.2) A6u).useL Tryz.underlying27 hv h
 refine⟨A,c,l.map Subtype.val,?_,?_,?_,fun m hm=>?_⟩
 ·rw[h1,List.length_map]
  rfl
 ·rw[List.length_map]
  exact h2
 ·rw[List.flatMap_map]
  exact h4
 ·obtain⟨x,hx,rfl⟩:=List.mem_map.1 hm
  exact h5 x hx
end
end Go.Proofs.YtedaafmfjhjfmaaGreatDoor
/- The plain law of PartOrder: in whatever order partials come that can all be taken, they are the same as one. No program in sight. -/
namespace Go.Proofs.YtedaafmfjhjfmaaGreatDoor
set_option linter.unusedVariables false
theorem A6w (a b:List Int):Br a b=Br b a:=by
 unfold Br
 rw[UInt64.and_comm]
theorem A6x (a b:List UInt64):Pv a b=Pv b a:=by
 unfold Pv
 rw[Bool.eq_iff_iff]
 simp only[List.any_eq_true,decide_eq_true_eq]
 exact⟨fun⟨x,hx,y,hy,e⟩=>⟨y,hy,x,hx,e.symm⟩,fun⟨x,hx,y,hy,e⟩=>⟨y,hy,x,hx,e.symm⟩⟩
theorem A6y (a b:MgS):Db a b=Db b a:=by
 unfold Db
 rw[A6w,A6x]
def FarT (a b:MgS):Prop:=a.pl≠b.pl∧Db a b=false
theorem FarT.symm {a b:MgS} (h:FarT a b):FarT b a:=⟨fun e=>h.1 e.symm,by rw[A6y];exact h.2⟩
def Ng (m:MgS):Int×MgS:=(m.pl,m)
theorem A6z {s:Sms} {m:MgS} (h:s.may m=true):0≤m.ge:=by
 have km:=Jv h
 obtain⟨_,hf,_⟩:=Zk km.chk
 rw[km.k] at hf
 have f6:Bn 6=[97,103,105,120,112,118]:=by decide
 rw[f6] at hf
 have fg:=hf 103 (by simp)
 have fg:wiM m.ge 1073741824=true:=fg
 unfold wiM at fg
 simp only[decide_eq_true_eq] at fg
 omega
structure TkInv (s0 s:Sms) (T:List MgS):Prop where
 spots:s.spots=s0.spots
 place:s.place=s0.place
 dim:s.dim=s0.dim
 inv:SmInv s
 tk:s.taken=T.map Ng
theorem TkInv.may {s0 s:Sms} {T:List MgS} (h:TkInv s0 s T):∀m∈T,s0.may m=true:=fun m hm=>by
 have:=(h.inv.ok (Ng m) (by rw[h.tk];exact List.mem_map_of_mem hm)).1
 rw[T8 h.spots h.place h.dim] at this
 exact this
theorem TkInv.far {s0 s:Sms} {T:List MgS} (h:TkInv s0 s T):T.Pairwise FarT:=by
 have:=h.inv.apart
 rw[h.tk,List.pairwise_map] at this
 exact this
theorem Ab7 {s0 s:Sms} {T:List MgS} (h:TkInv s0 s T) {m:MgS} (h0:s.takeE m=0):TkInv s0 (s.take m) (T++[m]):=by
 obtain⟨e1,e2,e3,e4⟩:=Mo s m
 rw[if_pos h0] at e4
 exact⟨e1.trans h.spots,e2.trans h.place,e3.trans h.dim,Zp h.inv m,by rw[e4,h.tk,List.map_append];rfl⟩
theorem A60 {s0 s:Sms} {T:List MgS} (h:TkInv s0 s T) {m:MgS} (h0:¬s.takeE m=0):TkInv s0 (s.take m) T:=by
 obtain⟨e1,e2,e3,e4⟩:=Mo s m
 rw[if_neg h0] at e4
 exact⟨e1.trans h.spots,e2.trans h.place,e3.trans h.dim,Zp h.inv m,by rw[e4,h.tk]⟩
def Nh (s:Sms) (T:List MgS):Prop:=∀q,(∀m∈T,m.pl≠q)→Av s.heard q=none
theorem A61 {s0 s:Sms} {T:List MgS} (h:TkInv s0 s T) (hh:Nh s T) {m:MgS} (hm:s0.may m=true) (hf:∀t∈T,FarT t m):s.takeE m=0∧Nh (s.take m) (T++[m]):=by
 have h1:¬s.may m=false:=by rw[T8 h.spots h.place h.dim,hm];decide
 have h2:¬m.ge < (Av s.heard m.pl).getD 0:=by
  rw[hh m.pl fun t ht=>(hf t ht).1]
  have:=A6z hm
  show ¬m.ge < 0
  omega
 have h3:Av s.taken m.pl=none:=by
  cases hg:Av s.taken m.pl with
  |none=>rfl
  |some t=>
   have:=Us hg
   rw[h.tk] at this
   obtain⟨u,hu,e⟩:=List.mem_map.1 this
   exact absurd (congrArg Prod.fst e) (hf u hu).1
 have h4:¬s.taken.any (fun t=>Db t.2 m)=true:=fun e=>by
  obtain⟨t,ht,e⟩:=List.any_eq_true.1 e
  rw[h.tk] at ht
  obtain⟨u,hu,rfl⟩:=List.mem_map.1 ht
  have:=(hf u hu).2
  have e:Db u m=true:=e
  rw[this] at e
  cases e
 refine⟨?_,fun q hq=>?_⟩
 ·unfold Sms.takeE
  rw[if_neg h1,if_neg h2,h3,if_neg (by decide),if_neg h4]
 ·unfold Sms.take
  rw[if_neg fun e=>e.elim h1 h2]
  show Av (Bp s.heard m.pl m.ge) q=none
  rw[Zm,if_neg fun e=>hq m (List.mem_append_right _ (List.mem_singleton.2 rfl)) e.symm]
  exact hh q fun t ht=>hq t (List.mem_append_left _ ht)
def F9 (T:List MgS) (t k:Nat):List MgS:=(List.range k).map fun j=>ix T ((j+t) % T.length)
theorem A62 (T:List MgS) (t k:Nat):F9 T t (k+1)=F9 T t k++[ix T ((k+t) % T.length)]:=by
 unfold F9
 rw[List.range_succ,List.map_append]
 rfl
theorem A63 {n j k t:Nat} (hj:j < k) (hk:k < n):(j+t) % n≠(k+t) % n:=fun e=>by
 have h:=Nat.sub_mod_eq_zero_of_mod_eq e.symm
 rw[show k+t - (j+t)=k - j by omega,Nat.mod_eq_of_lt (by omega)] at h
 omega
theorem A64 {α:Type} [Inhabited α] {R:α→α→Prop} (hs:∀{a b},R a b→R b a) {T:List α} (h:T.Pairwise R) {p q:Nat} (hp:p < T.length) (hq:q < T.length) (hn:p≠q):R (ix T p) (ix T q):=by
 rw[List.pairwise_iff_getElem] at h
 rw[Rr hp,Rr hq]
 by_cases hlt:p < q
 ·exact h p q hp hq hlt
 ·exact hs (h q p hq hp (by omega))
theorem A65 {T:List MgS} (h:T.Pairwise FarT) {t k:Nat} (hk:k < T.length):∀u∈F9 T t k,FarT u (ix T ((k+t) % T.length)):=fun u hu=>by
 obtain⟨j,hj,rfl⟩:=List.mem_map.1 hu
 rw[List.mem_range] at hj
 exact A64 FarT.symm h (Nat.mod_lt _ (by omega)) (Nat.mod_lt _ (by omega)) (A63 hj hk)
theorem Ab8 {T:List MgS} {t:Nat} (x:MgS):x∈F9 T t T.length↔x∈T:=by
 constructor
 ·intro hx
  obtain⟨j,hj,rfl⟩:=List.mem_map.1 hx
  rw[List.mem_range] at hj
  exact Dr (Nat.mod_lt _ (by omega))
 ·intro hx
  obtain⟨q,hq,rfl⟩:=List.getElem_of_mem hx
  have hn:0 < T.length:=by omega
  have ht:=Nat.mod_lt t hn
  by_cases hlt:t % T.length≤q
  ·refine List.mem_map.2 ⟨q - t % T.length,List.mem_range.2 (by omega),?_⟩
   have e:(q - t % T.length+t) % T.length=q:=by
    rw[Nat.add_mod,Nat.mod_eq_of_lt (a:=q - t % T.length) (by omega),Nat.sub_add_cancel hlt,Nat.mod_eq_of_lt hq]
   rw[e,Rr hq]
  ·refine List.mem_map.2 ⟨q+T.length - t % T.length,List.mem_range.2 (by omega),?_⟩
   have e:(q+T.length - t % T.length+t) % T.length=q:=by
    rw[Nat.add_mod,Nat.mod_eq_of_lt (a:=q+T.length - t % T.length) (by omega),Nat.sub_add_cancel (by omega),Nat.add_mod_right,Nat.mod_eq_of_lt hq]
   rw[e,Rr hq]
theorem Ab9 {s0 s1 s2:Sms} {T1 T2:List MgS} (h1:TkInv s0 s1 T1) (h2:TkInv s0 s2 T2) (hm:∀x,x∈T2↔x∈T1):s1.from_=s2.from_∧s1.msgs=s2.msgs:=by
 have e:∀(s:Sms) (T:List MgS),s.taken=T.map Ng→s.taken.map (·.1)=T.map (·.pl):=fun s T h=>by
  rw[h,List.map_map]
  rfl
 have hp:(s1.taken.map (·.1)).Perm (s2.taken.map (·.1)):=by
  rw[List.perm_ext_iff_of_nodup (Jw h1.inv) (Jw h2.inv),e _ _ h1.tk,e _ _ h2.tk]
  intro q
  simp only[List.mem_map]
  exact⟨fun⟨x,hx,e⟩=>⟨x,(hm x).2 hx,e⟩,fun⟨x,hx,e⟩=>⟨x,(hm x).1 hx,e⟩⟩
 have hf:s1.from_=s2.from_:=by
  refine List.Perm.eq_of_pairwise (le:=fun a b:Int=>a≤b) (fun a b _ _ h1 h2=>Int.le_antisymm h1 h2) ?_ ?_ ((Jx s1).trans (hp.trans (Jx s2).symm))
  ·exact (List.pairwise_mergeSort (fun a b c h1 h2=>by rw[decide_eq_true_eq] at*;omega) (fun a b=>by simp only[Bool.or_eq_true,decide_eq_true_eq];omega) _).imp fun h=>of_decide_eq_true h
  ·exact (List.pairwise_mergeSort (fun a b c h1 h2=>by rw[decide_eq_true_eq] at*;omega) (fun a b=>by simp only[Bool.or_eq_true,decide_eq_true_eq];omega) _).imp fun h=>of_decide_eq_true h
 refine⟨hf,?_⟩
 unfold Sms.msgs
 rw[←hf]
 refine List.map_congr_left fun q hq=>?_
 have hq:=(Jx s1).mem_iff.1 hq
 rw[e _ _ h1.tk] at hq
 obtain⟨x,hx,rfl⟩:=List.mem_map.1 hq
 have g1:=Pw (Jw h1.inv) (x:=Ng x) (by rw[h1.tk];exact List.mem_map_of_mem hx)
 have g2:=Pw (Jw h2.inv) (x:=Ng x) (by rw[h2.tk];exact List.mem_map_of_mem ((hm x).2 hx))
 have g1:Av s1.taken x.pl=some x:=g1
 have g2:Av s2.taken x.pl=some x:=g2
 rw[g1,g2]
theorem A66 {s0 s1 s2:Sms} {T1 T2:List MgS} (h1:TkInv s0 s1 T1) (h2:TkInv s0 s2 T2) (hm:∀x,x∈T2↔x∈T1) (ge:Int):s1.all ge=s2.all ge:=by
 obtain⟨e1,e2⟩:=Ab9 h1 h2 hm
 have e3:s1.place=s2.place:=h1.place.trans h2.place.symm
 have e4:s1.dim=s2.dim:=h1.dim.trans h2.dim.symm
 unfold Sms.all Ir Fe
 rw[e2,e3,e4]
theorem A67 {s:Sms} {pl:Int} {ids peers:List Int}:∀(n:Nat) (l:List UInt64),l.length≤n→∀(last:Int) (rest:List Int),-1≤last→last < s.spots.length→Dz s pl ids peers l last rest=true→(l.length:Int)≤2*(s.spots.length - 1 - last)+1:=by
 intro n
 induction n with
 |zero=>
  intro l hl last rest h0 h1 h
  obtain rfl:=List.length_eq_zero_iff.1 (Nat.le_zero.1 hl)
  show (0:Int)≤_
  omega
 |succ n ih=>
  intro l hl last rest h0 h1 h
  match l,hl with
  |[],_=>show (0:Int)≤_;omega
  |[a],_=>show (1:Int)≤_;omega
  |a::b::r,hl=>
   rw[Dz] at h
   split at h
   ·cases h
   split at h
   ·cases h
   split at h
   ·cases h
   rename_i g1 g2 g3
   have:=ih r (by simp only[List.length_cons] at hl;omega) a.toNat _ (by omega) (by omega) h
   have g4:¬(a.toNat:Int)≤last:=fun e=>g2 (.inl e)
   simp only[List.length_cons]
   omega
theorem Aca {s0 s:Sms} {T:List MgS} (h:TkInv s0 s T) (hT:T.length≤12) (hs:s0.spots.length≤16) (hd:0≤s0.dim∧s0.dim≤32) (ge:Int):(s.all ge).Few:=by
 have hp:=Zq h.inv
 have hlen:s.msgs.length≤12:=by
  rw[hp.length_eq,List.length_map,h.tk,List.length_map]
  exact hT
 have hmay:∀m∈s.msgs,MayP s m:=fun m hm=>by
  obtain⟨t,ht,rfl⟩:=List.mem_map.1 (hp.mem_iff.1 hm)
  exact Jv (h.inv.ok t ht).1
 have hps:∀m∈s.msgs,m.ps.length≤64:=fun m hm=>(Aye (hmay m hm).ps).1
 have hns:∀m∈s.msgs,(Cb m.ns).length≤33:=fun m hm=>by
  have hz:-1 < (s.spots.length:Int):=by omega
  have:=A67 _ _ (Nat.le_refl _) _ _ (by omega) hz (hmay m hm).go
  have h2:=M3 m.ns
  rw[h.spots] at this
  omega
 refine⟨rfl,?_,?_,?_,?_⟩
 ·have:=Zr s.msgs [] rfl fun t ht=>(hmay t ht).ids
  have:=A3r this.1
  show (Ir s).length≤1000
  unfold Ir
  omega
 ·show ((Ds paK (s.msgs.flatMap fun m=>Cb m.ns)).flatMap fun p=>[p.1,p.2]).length≤1000
  have h1:=Ix (f:=fun p:UInt64×UInt64=>[p.1,p.2]) (K:=2) (l:=Ds paK (s.msgs.flatMap fun m=>Cb m.ns)) fun x _=>Nat.le_refl 2
  have h2:=Ix hns
  rw[Q7] at h1
  have h3:33*s.msgs.length≤33*12:=Nat.mul_le_mul_left _ hlen
  omega
 ·show (Ds prK (s.msgs.flatMap (·.ps))).length≤1000
  have h2:(s.msgs.flatMap (·.ps)).length≤64*s.msgs.length:=Ix hps
  rw[Q7]
  have h3:64*s.msgs.length≤64*12:=Nat.mul_le_mul_left _ hlen
  omega
 ·show (Fe s).length≤1000
  have:(Fe s).length=s.dim.toNat:=by
   rw[Ayl h.inv]
   unfold Px
   have:∀(l:List (Int×MgS)) (z:List UInt32),(∀t∈l,t.2.xs.length=z.length)→(l.foldl (fun r t=>Dk r t.2.xs) z).length=z.length:=by
    intro l
    induction l with
    |nil=>intro z _;rfl
    |cons t l ih=>
     intro z hz
     rw[List.foldl_cons]
     have e:=Ayj (a:=z) (b:=t.2.xs) (hz t (List.mem_cons_self ..)).symm
     rw[ih _ fun u hu=>by rw[e];exact hz u (List.mem_cons_of_mem _ hu),e]
   rw[this _ _ fun t ht=>by
    rw[List.length_replicate]
    have:=(Jv (h.inv.ok t ht).1).len
    omega,List.length_replicate]
  rw[this,h.dim]
  omega
end Go.Proofs.YtedaafmfjhjfmaaGreatDoor
