import Derived.Test.YtedaafmfjhjfmaaGreatDoorPt7
import Derived.Test.YtedaafmfjhjfmaaGreatDoorPuB
import Derived.Test.YtedaafmfjhjfmaaGreatDoorTs1
/- The plain law of PartApart: whoever is in stands below the place. No program in sight. -/
namespace Go.Proofs.YtedaafmfjhjfmaaGreatDoor
set_option linter.unusedVariables false
theorem A6t {l:List PlS} (h:StOk l):∀(p:Nat),p < l.length→∀(q:Nat) (r:Int),(q:Int)∈abF l p→r∈abF l q→r∈abF l p:=by
 intro p
 induction p using Nat.strongRecOn with
 |ind p ih=>
  intro h2 q r hq hr
  by_cases e0:p=0
  ·subst e0;rw[Y1 h] at hq;cases hq
  have hu:=h.up p (by omega) h2
  rw[Y2 h (by omega) h2] at hq ⊢
  rcases List.mem_cons.1 hq with e|hq
  ·rw[←e,Int.toNat_natCast]
   exact List.mem_cons_of_mem _ hr
  ·exact List.mem_cons_of_mem _ (ih _ (show (ix l p).parent.toNat < p by omega) (by omega) q r hq hr)
theorem A6u {s:Sms} {pl:Int} {ids peers:List Int}:∀(n:Nat) (l:List UInt64),l.length≤n→∀(last:Int) (rest:List Int),(∀x∈rest,0≤x∧x < 64)→Dz s pl ids peers l last rest=true→
  ∀x∈rest,∃a:Nat,a < s.spots.length∧((a:Int)=pl∨s.und a pl=true)∧(ix s.spots a).need≠0∧x∈(ix s.spots a).clients:=by
 have nil_:∀{rest:List Int},rest.isEmpty=true→∀x∈rest,∃a:Nat,a < s.spots.length∧((a:Int)=pl∨s.und a pl=true)∧(ix s.spots a).need≠0∧x∈(ix s.spots a).clients:=fun h x hx=>by
  rw[List.isEmpty_iff] at h
  rw[h] at hx
  cases hx
 intro n
 induction n with
 |zero=>
  intro l hl last rest hr h
  obtain rfl:=List.length_eq_zero_iff.1 (Nat.le_zero.1 hl)
  exact nil_ h
 |succ n ih=>
  intro l hl last rest hr h
  match l,hl with
  |[],_=>exact nil_ h
  |[a],_=>exact nil_ h
  |a::b::r,hl=>
   rw[Dz] at h
   split at h
   ·cases h
   split at h
   ·cases h
   split at h
   ·cases h
   rename_i h1 h2 h3
   intro x hx
   by_cases hc:x∈(ix s.spots a.toNat).clients
   ·refine⟨a.toNat,by omega,?_,fun e=>h2 (.inr (.inr e)),hc⟩
    by_cases e:(a.toNat:Int)=pl
    ·exact .inl e
    ·refine .inr ?_
     cases hu:s.und a.toNat pl
     ·exact absurd (.inr (.inl ⟨e,hu⟩)) h2
     ·rfl
   ·have hb:=hr x hx
    exact ih r (by simp only[List.length_cons] at hl;omega) _ _ (fun y hy=>by have:=T0.1 hy;omega) h x (T0.2 ⟨hb.1,hb.2,hx,hc⟩)
theorem Ab7 (i:Int):∀(l:List GrS) (k j:Nat),Bn i l k=(k+j:Nat)→j < l.length∧(ix l j).place=i
 |[],k,j,h=>by rw[Bn] at h;omega
 |g::r,k,j,h=>by
  rw[Bn] at h
  by_cases e:g.place=i
  ·rw[Qe e,if_pos rfl] at h
   obtain rfl:j=0:=by omega
   exact⟨by simp,e⟩
  ·rw[Qf e,if_neg (by decide)] at h
   have hl:=Ua i r (k+1)
   cases j with
   |zero=>
    exfalso
    have h5:∀(l:List GrS) (k:Nat),Bn i l k=-1∨(k:Int)≤Bn i l k:=by
     intro l
     induction l with
     |nil=>intro k;exact .inl rfl
     |cons g l ih=>
      intro k
      rw[Bn]
      split
      ·exact .inr (Int.le_refl _)
      ·have:=ih (k+1);omega
    have:=h5 r (k+1)
    omega
   |succ j=>
    have:=Ab7 i r (k+1) j (by rw[h];congr 1;omega)
    exact⟨by simp only[List.length_cons];omega,this.2⟩
theorem A6v {c:CfS} {a:Nat} (h:cfF c=true) (ha:a < c.places.length) (hn:(D4 c a).need≠0):∃g∈c.groups,g.place=a∧(D4 c a).clients=g.ids:=by
 unfold D4 at hn ⊢
 by_cases hg:0≤B5 c a
 ·rw[if_pos hg] at hn ⊢
  have hp:isP c a=true:=(My h (by omega) (by omega)).2
  unfold B5 at hg ⊢
  rw[if_pos hp] at hg ⊢
  obtain⟨j,hj⟩:=Int.eq_ofNat_of_zero_le hg
  have hj2:=Ab7 a c.groups 0 j (by rw[hj,Nat.zero_add])
  rw[hj,Int.toNat_natCast]
  exact⟨ix c.groups j,C4 hj2.1,hj2.2,rfl⟩
 ·rw[if_neg hg] at hn
  exact absurd rfl hn
theorem A6w (c:CfS) (a:Nat):(D4 c a).above=abF c.places a:=by
 unfold D4
 split<;>rfl
theorem Ab8 {c:CfS} {p:Int} {a:Nat} (ha:a < c.places.length):ix (Sms.new c p).spots a=D4 c a:=by
 show ix ((List.range c.places.length).map (D4 c)) a=_
 rw[ix,List.getD_eq_getElem?_getD,List.getElem?_map,List.getElem?_range ha]
 rfl
theorem Ab9 (c:CfS) (p:Int):(Sms.new c p).spots.length=c.places.length:=by
 show ((List.range c.places.length).map (D4 c)).length=_
 rw[List.length_map,List.length_range]
theorem Aca {c:CfS} {p:Int} {s:Sms} (hs:s.spots=(Sms.new c p).spots) {q:Nat} {r:Int} (h:s.und q r=true):q < c.places.length∧r∈abF c.places q:=by
 unfold Sms.und at h
 rw[Bool.and_eq_true,decide_eq_true_eq,decide_eq_true_eq,hs,Ab9,Int.toNat_natCast] at h
 have hq:q < c.places.length:=by omega
 rw[Ab8 hq,A6w] at h
 exact⟨hq,h.2⟩
theorem A6x {c:CfS} {p:Int} {s:Sms} {m:MgS} (hc:cfF c=true) (hs:s.spots=(Sms.new c p).spots) (hpl:s.place=p) (h:s.may m=true):∀x∈m.ids,x∈Dq c p:=fun x hx=>by
 have km:=K2 h
 have hst:=T2 hc
 have hr:∀y∈idsP m.ps,0≤y∧y < 64:=(Ayk km.ps).2.1
 obtain⟨a,h1,h2,h3,h4⟩:=A6u _ _ (Nat.le_refl _) _ _ hr km.go x (km.sub x hx)
 rw[hs,Ab9] at h1
 rw[hs,Ab8 h1] at h3 h4
 have hu:=km.und
 have hpl0:0≤m.pl:=by
  unfold Sms.und at hu
  rw[Bool.and_eq_true,decide_eq_true_eq] at hu
  exact hu.1.1
 obtain⟨k,hk⟩:=Int.eq_ofNat_of_zero_le hpl0
 rw[hk,hpl] at hu
 obtain⟨u1,u2⟩:=Aca hs hu
 obtain⟨g,g1,g2,g3⟩:=A6v hc h1 h3
 rw[g3] at h4
 refine List.mem_flatMap.2 ⟨g,g1,?_⟩
 have hb:I3 c p g=true:=by
  unfold I3
  rw[g2,Int.toNat_natCast,Bool.or_eq_true,decide_eq_true_eq,decide_eq_true_eq]
  rcases h2 with e|e
  ·rw[hk] at e
   obtain rfl:a=k:=by omega
   exact .inr u2
  ·rw[hk] at e
   exact .inr (A6t hst a h1 k p (Aca hs e).2 u2)
 rw[if_pos hb]
 exact h4
theorem Acb {n:Int} (P:GrS→Bool):∀{gs:List GrS} {last:Int} {seen R:List Int},Ez n gs last seen=some R→(gs.flatMap fun g=>if P g=true then g.ids else []).Nodup∧∀x∈gs.flatMap fun g=>if P g=true then g.ids else [],(0≤x∧x < 64)∧(0≤x→x < 64→x∉seen)
 |[],_,_,_,_=>⟨List.nodup_nil,fun x hx=>by cases hx⟩
 |g::gs,last,seen,R,h=>by
  rw[Ez] at h
  split at h
  ·rename_i hf
   unfold Gc at hf
   simp only[Bool.and_eq_true,decide_eq_true_eq] at hf
   have hk:Bg (-1) g.ids=true:=hf.1.1.2
   have hb:(Bh seen g.ids).length=0:=hf.1.2
   obtain⟨i1,i2⟩:=Acb P h
   have hm:=Iu hk
   have hns:∀x∈g.ids,x∉seen:=fun x hx hs=>by
    have:x∈Bh seen g.ids:=Tz.2 ⟨(hm x hx).1,(hm x hx).2,hs,hx⟩
    rw[List.length_eq_zero_iff.1 hb] at this
    cases this
   rw[List.flatMap_cons]
   have hd:∀x∈(if P g=true then g.ids else []),x∈g.ids:=fun x hx=>by
    split at hx
    ·exact hx
    ·cases hx
   refine⟨List.nodup_append.2 ⟨?_,i1,fun x hx y hy e=>?_⟩,fun x hx=>?_⟩
   ·split
    ·exact Zd (Iq.1 hk).2
    ·exact List.nodup_nil
   ·subst e
    have hx:=hd x hx
    exact (i2 x hy).2 (hm x hx).1 (hm x hx).2 (Pq.2 ⟨(hm x hx).1,(hm x hx).2,.inr hx⟩)
   ·rcases List.mem_append.1 hx with hx|hx
    ·have hx:=hd x hx
     exact⟨hm x hx,fun _ _=>hns x hx⟩
    ·exact⟨(i2 x hx).1,fun h1 h2 hs=>(i2 x hx).2 h1 h2 (Pq.2 ⟨h1,h2,.inl hs⟩)⟩
  ·cases h
theorem A6y {c:CfS} {p:Int} (h:cfF c=true):(Dq c p).Nodup∧∀x∈Dq c p,0≤x∧x < 64:=by
 unfold cfF at h
 simp only[Bool.and_eq_true] at h
 have h4:=h.1.2
 unfold grF at h4
 split at h4
 ·cases hg:Ez c.places.length c.groups 0 [] with
  |none=>rw[hg] at h4;cases h4
  |some R=>
   have:=Acb (I3 c p) hg
   exact⟨this.1,fun x hx=>(this.2 x hx).1⟩
 ·cases h4
theorem A6z {l:List Int} {n:Nat} (hn:n < 64) (h:(n:Int)∈l):(n:Int)∈someR 0 l [] 64:=by
 unfold someR
 exact List.mem_map.2 ⟨n,List.mem_filter.2 ⟨List.mem_range.2 hn,by unfold Ln hasR;simp [h]⟩,rfl⟩
theorem A60 {a l:List Int} (h:∀x∈a,x∈l):someR 2 a (someR 0 l [] 64) 64=[]:=by
 have h2:∀n:Nat,n < 64→(n:Int)∈a→(n:Int)∈someR 0 l [] 64:=fun n hn hx=>A6z hn (h _ hx)
 generalize someR 0 l [] 64=b at*
 unfold someR
 rw[List.map_eq_nil_iff,List.filter_eq_nil_iff]
 intro n hn
 rw[List.mem_range] at hn
 unfold Ln hasR
 by_cases hx:(n:Int)∈a
 ·have:=h2 n hn hx
  simp [hx,this]
 ·simp [hx]
theorem A61 {c:CfS} {p:Int} {s:Sms} {inn:List Int} {sum:List UInt32} {many:Nat} (hc:cfF c=true) (hs:s.spots=(Sms.new c p).spots) (hpl:s.place=p) (h:PaInv s inn sum many):someR 2 inn (someR 0 (Dq c p) [] 64) 64=[]:=
 A60 fun x hx=>by
  obtain⟨t,ht,hxt⟩:=(h.mem x).1 hx
  exact A6x hc hs hpl (h.inv.ok t ht).1 x hxt
end Go.Proofs.YtedaafmfjhjfmaaGreatDoor
/- Law 22's giveConf, bigConf. -/
namespace Go.Proofs.YtedaafmfjhjfmaaGreatDoor
open Go.RowKit
set_option linter.unusedSimpArgs false
set_option linter.unusedVariables false
structure CfR.Wide (c:CfR) (w:World):Prop where
 plen:c.ps.l.length≤c.ps.c
 pw:c.ps.l.length*24≤140737488351232
 prd:RdV w w.heap.size c.ps.A (c.ps.l.flatMap plV)
 glen:c.gs.l.length≤c.gs.c
 gw:c.gs.l.length*40≤140737488351232
 grd:RdV w w.heap.size c.gs.A (c.gs.l.flatMap grV)
 ids:∀g∈c.gs.l,g.ids.l.length≤g.ids.c∧g.ids.l.length*8≤140737488351232∧RdV w w.heap.size g.ids.A (g.ids.l.map (Value.int .i64))
def Fl (c:CfR) (i:Nat):List Value:=(c.ps.l.take i).flatMap plV
theorem A62 {c:CfR} {i:Nat} (h:i < c.ps.l.length):vC (Fl c (i+1))=vC (Fl c i)++[.v (.int .i64 (ix c.ps.l i).parent),.v (.int .i64 (ix c.ps.l i).spare),.v (.int .i64 (ix c.ps.l i).need)]:=by
 unfold Fl
 rw[List.take_add_one,List.getElem?_eq_getElem h,Option.toList_some,List.flatMap_append,M2,List.flatMap_cons,List.flatMap_nil,List.append_nil,ix,List.getD_eq_getElem?_getD,List.getElem?_eq_getElem h]
 rfl
theorem A63 {c:CfR} {i:Nat} (h:i≤c.ps.l.length):(Fl c i).length=i*3:=by
 unfold Fl
 rw[Cc Iv,List.length_take,Nat.min_eq_left h]
theorem A64 (c:CfR):Fl c c.ps.l.length=c.ps.l.flatMap plV:=by unfold Fl;rw[List.take_length]
attribute [local irreducible] Ad Ae Ah Au Am Ap Ai Ao
attribute [local irreducible] Fl vC
section
end
end Go.Proofs.YtedaafmfjhjfmaaGreatDoor
/- Who stands below a place, as the document has it. -/
namespace Go.Proofs.YtedaafmfjhjfmaaGreatDoor
open Go.RowKit
set_option linter.unusedSimpArgs false
set_option linter.unusedVariables false
def Es (c:CfS) (p:Int) (i:Nat):List Int:=(c.groups.take i).flatMap fun g=>if I3 c p g=true then g.ids else []
theorem A65 (c:CfS) (p:Int):Es c p c.groups.length=Dq c p:=by
 unfold Es Dq
 rw[List.take_length]
theorem Acc {c:CfS} {p:Int} {i:Nat} (h:i < c.groups.length):Es c p (i+1)=Es c p i++(if I3 c p (ix c.groups i)=true then (ix c.groups i).ids else []):=by
 unfold Es
 rw[List.take_add_one,List.getElem?_eq_getElem h,Option.toList_some,List.flatMap_append,List.flatMap_cons,List.flatMap_nil,List.append_nil,Rq h]
theorem Acd {c:CfS} {p:Int} (hb:∀g∈c.groups,g.ids.length≤30):∀i,i≤c.groups.length→(Es c p i).length≤30*i
 |0,_=>by unfold Es;simp
 |i+1,h=>by
  rw[Acc (by omega),List.length_append]
  have:=Acd hb (p:=p) i (by omega)
  have:=hb _ (C4 (l:=c.groups) (i:=i) (by omega))
  split
  ·omega
  ·simp only[List.length_nil];omega
attribute [local irreducible] Ad Ae Ah Au Am Ap Ai Ao
attribute [local irreducible] B4 okV Aw cfF tcF isP ofP abF Df Bn B5 hasR someR Dq Es
section
variable (c:CfR) (w:World)
theorem A66 {w0:World} {hp:List Res} (p:Nat) (q:Int) (hc:c.Ok w0) (hst:StOk c.ps.l) (hp':p < c.ps.l.length):Ae Tryz.prog w0 No 88 [.x (.g [.v (.int .i64 c.dim),.v (.slice c.ps.A c.ps.l.length c.ps.c),.v (.slice c.gs.A c.gs.l.length c.gs.c),.v (.int .i64 c.least),.v (.int .i64 c.term)]),.x (.a (.v (.int .i64 p))),.x (.a (.v (.int .i64 q)))] hp (.x (.a (.v (.bool (decide ((p:Int)=q)||decide (q∈abF c.ps.l p)))))) hp:=Ba fun γ w hS=>A6s c w p q (hc.later hS) hst hp'
theorem A67 {w0:World} {ow:Nat→Prop} {hp:List Res} {sv:Sv} {l:List Int} (hm:l.length≤1000000) (hd:l.Nodup) (hr:∀x∈l,0≤x∧x < 64) (h:A6 w0 ow hp sv (l.map (Value.int .i64))) (hbr:∀r∈hp,Res.bnd hp.length r):Ae Tryz.prog w0 ow 89 [sv] hp (.t [.a (.o hp.length),.a (.v (.bool true))]) (hp++[.own 3 (.i64 (someR 0 l [] 64))]):=S4 hbr trivial fun γ w hS=>by
 obtain⟨A,c,e1,b1,r1⟩:=h γ w hS
 rw[List.length_map] at e1 b1
 show Calls _ _ #[sv.val γ] w _
 rw[e1]
 exact A6p l A c w hm b1 r1 hd hr
set_option maxRecDepth 100000 in
theorem A68 (p:Int) (hc:c.Ok w) (hk:cfF c.cf=true) (hb1:c.gs.l.length≤30) (hb2:∀g∈c.gs.l,g.ids.l.length≤30) (hd:(Dq c.cf p).Nodup) (hr:∀x∈Dq c.cf p,0≤x∧x < 64):
  Calls Tryz.prog 33 #[.agg (cfV c).toArray,.int .i64 p] w fun e w'=>∃x,e=.returned x∧Own w' w.heap.size 3 x ((someR 0 (Dq c.cf p) [] 64).map (Value.int .i64))∧Below w.heap.size w w':=by
 have F:=FLm.of Hv (by decide) hc.grd
 have hst:StOk c.ps.l:=T2 hk
 have hpl:=A0q hk
 have hgl:c.cf.groups.length=c.gs.l.length:=List.length_map ..
 have hids:∀g∈c.cf.groups,g.ids.length≤30:=fun g hg=>by
  obtain⟨x,hx,rfl⟩:=List.mem_map.1 hg
  exact hb2 x hx
 refine Fu (n:=39) Tryz.func33 rfl Tryz.ntmps33 [.x (.g [.v (.int .i64 c.dim),.v (.slice c.ps.A c.ps.l.length c.ps.c),.v (.slice c.gs.A c.gs.l.length c.gs.c),.v (.int .i64 c.least),.v (.int .i64 c.term)]),.x (.a (.v (.int .i64 p)))] (by simp) 3 (.i64 (someR 0 (Dq c.cf p) [] 64)) (fun _=>rfl) ?_
 simp (maxSteps:=10^6) only[push_cast,↓reduceIte,Nat.reduceLT]
 refine Ij 5 3 (.i64 []) rfl rfl trivial (by simp (maxSteps:=10^6) only[push_cast,Nat.reduceLT]) ?_
 simp (maxSteps:=10^6) only[push_cast]
 refine Bc (ι:=Nat) (fun i=>⟨[(1,.x (.a (.v (.int .i64 p)))),(2,.x (.a (.p 0 0))),(5,.x (.a (.o 1))),(6,.x (.a (.v (.int .i64 i))))],[.blk 25 (.c [.v (.int .i64 c.dim),.v (.slice c.ps.A c.ps.l.length c.ps.c),.v (.slice c.gs.A c.gs.l.length c.gs.c),.v (.int .i64 c.least),.v (.int .i64 c.term)]),.own 3 (.i64 (Es c.cf p i))]⟩) (fun i=>i≤c.gs.l.length) (fun i=>c.gs.l.length - i) 0 [0,1] (Nat.zero_le _) ?_ ?_
 ·have e0:Es c.cf p 0=[]:=by unfold Es;rfl
  simp (maxSteps:=10^6) only[e0,push_cast,↓Int.cast_ofNat_Int,Int.cast_ofNat_Int,↓reduceIte,reduceCtorEq,Nat.reduceEqDiff,Nat.reduceLT,Nat.reduceAdd]
 intro i hi
 have hl:=Acd (p:=p) hids i (by omega)
 by_cases hlt:(i:Int) < c.gs.l.length
 ·have hil:i < c.gs.l.length:=by omega
  have i0:(0:Int)≤i:=by omega
  have nx:(i:Int)+1≤9223372036854775807:=by omega
  have hA:=F.some_ (by omega)
  obtain⟨c0,o0⟩:=F.cell i 0 _ hil rfl
  obtain⟨c1,o1⟩:=F.cell i 1 _ hil rfl
  rw[Nat.add_zero] at c0 o0
  have hs:=Acc (c:=c.cf) (p:=p) (i:=i) (by omega)
  rw[show ix c.cf.groups i=(ix c.gs.l i).gr from A0g GrR.gr c.gs.l hil] at hs
  have gok:=hc.ids _ (C4 hil)
  have gb:=hb2 _ (C4 hil)
  have gpl:=hpl (ix c.gs.l i).gr (List.mem_map_of_mem (C4 hil))
  generalize ix c.gs.l i=g at*
  have gpl:0 < g.place∧g.place < (c.ps.l.length:Int):=gpl
  have c1:Az w (Ag c.gs.A (i*3+1))=.slice g.ids.A g.ids.l.length g.ids.c:=c1
  obtain⟨G,hG⟩:∃G:Nat,g.place=G:=⟨g.place.toNat,by omega⟩
  have c0:Az w (Ag c.gs.A (i*3))=.int .i64 g.place:=c0
  rw[hG] at c0 gpl
  have hbe:I3 c.cf p g.gr=(decide ((G:Int)=p)||decide (p∈abF c.ps.l G)):=by
   unfold I3
   show (decide (g.place=p)||decide (p∈abF c.ps.l g.place.toNat))=_
   rw[hG,Int.toNat_natCast]
  rw[hbe] at hs
  obtain⟨r1,r2⟩:=Pd (FV.no gok.rd)
  have b1:((Es c.cf p i).length+g.ids.l.length)*8≤140737488355328:=by omega
  have b2:(Es c.cf p i).length+g.ids.l.length≤2 ^ 63 - 1:=by omega
  simp (maxSteps:=10^6) only[hlt,undef,push_cast,↓reduceIte,reduceCtorEq,Nat.reduceEqDiff,Nat.reduceLT,Nat.reduceAdd]
  (repeat (refine And.intro (by first|omega|decide) ?_))
  refine Cy [(0,true),(1,true),(2,true),(3,true),(4,true),(5,true),(6,true),(7,true),(8,false)] (by kernel_rfl) (by kernel_rfl) rfl (by kernel_rfl) ?_
  simp (maxSteps:=10^6) only[hlt,i0,c0,o0,hA,Cb,Bf,undef,push_cast,↓Int.toNat_natCast,↓reduceIte,reduceCtorEq,Nat.reduceEqDiff,Nat.reduceLT,Nat.reduceAdd]
  (repeat (refine And.intro (by first|omega|decide) ?_))
  refine Td rfl Awi rfl (A66 c G p hc hst (by omega)) (Af rfl) ?_
  cases hb:(decide ((G:Int)=p)||decide (p∈abF c.ps.l G)) with
  |true=>
   rw[hb,if_pos rfl] at hs
   have hs:Es c.cf p (i+1)=Es c.cf p i++g.ids.l:=hs
   simp (maxSteps:=10^6) only[hlt,i0,c1,o1,hA,r1,r2,b1,b2,nx,Bu,Bf,undef,push_cast,↓Int.toNat_natCast,↓reduceIte,reduceCtorEq,Nat.reduceEqDiff,Nat.reduceLT,Nat.reduceAdd,Int.reduceNeg]
   (repeat (refine And.intro (by first|omega|decide) ?_))
   refine Ay (i+1) [0,2] (show i+1≤c.gs.l.length by omega) (show c.gs.l.length - (i+1) < c.gs.l.length - i by omega) ?_
   simp (maxSteps:=10^6) only[hs,push_cast,↓reduceIte,reduceCtorEq,Nat.reduceEqDiff,Nat.reduceLT,Nat.reduceAdd]
   done
  |false=>
   rw[hb,if_neg (by decide),List.append_nil] at hs
   simp (maxSteps:=10^6) only[nx,push_cast,↓reduceIte,Nat.reduceEqDiff,Nat.reduceLT,Nat.reduceAdd,Int.reduceNeg]
   (repeat (refine And.intro (by first|omega|decide) ?_))
   refine Ay (i+1) [0,1] (show i+1≤c.gs.l.length by omega) (show c.gs.l.length - (i+1) < c.gs.l.length - i by omega) ?_
   simp (maxSteps:=10^6) only[hs,push_cast,↓reduceIte,reduceCtorEq,Nat.reduceEqDiff,Nat.reduceLT,Nat.reduceAdd]
   done
 ·obtain rfl:i=c.gs.l.length:=by omega
  have er:=A65 c.cf p
  rw[hgl] at er
  rw[er] at hl ⊢
  simp (maxSteps:=10^6) only[hlt,undef,push_cast,↓reduceIte,reduceCtorEq,Nat.reduceEqDiff,Nat.reduceLT,Nat.reduceAdd]
  (repeat (refine And.intro (by first|omega|decide) ?_))
  refine Jr rfl Awj rfl (A67 (by omega) hd hr (Kx (k:=1) rfl fun _=>rfl) (by simp (maxSteps:=10^6) only[push_cast,Nat.reduceAdd])) (Af rfl) (fun _=>by simp (maxSteps:=10^6) only[push_cast,Nat.reduceLT,Nat.reduceAdd]) ?_
  simp (maxSteps:=10^6) only[push_cast,↓reduceIte,Nat.reduceEqDiff,Nat.reduceLT,Nat.reduceAdd]
  done
theorem A69 {w0:World} {hp:List Res} (p:Int) (hc:c.Ok w0) (hk:cfF c.cf=true) (hb1:c.gs.l.length≤30) (hb2:∀g∈c.gs.l,g.ids.l.length≤30) (hd:(Dq c.cf p).Nodup) (hr:∀x∈Dq c.cf p,0≤x∧x < 64) (hbr:∀r∈hp,Res.bnd hp.length r):Ae Tryz.prog w0 No 33 [.x (.g [.v (.int .i64 c.dim),.v (.slice c.ps.A c.ps.l.length c.ps.c),.v (.slice c.gs.A c.gs.l.length c.gs.c),.v (.int .i64 c.least),.v (.int .i64 c.term)]),.x (.a (.v (.int .i64 p)))] hp (.x (.a (.o hp.length))) (hp++[.own 3 (.i64 (someR 0 (Dq c.cf p) [] 64))]):=
 Ga hbr trivial fun γ w hS=>A68 c w p (hc.later hS) hk hb1 hb2 hd hr
end
end Go.Proofs.YtedaafmfjhjfmaaGreatDoor
/- Law 22's giveConf as its caller sees it, bigConf. -/
namespace Go.Proofs.YtedaafmfjhjfmaaGreatDoor
open Go.RowKit
set_option linter.unusedSimpArgs false
set_option linter.unusedVariables false
theorem CfR.Wide.later {w0 w:World} {c:CfR} {γ:List Nm} {hp:List Res} (h:c.Wide w0) (hS:Sat w0 No γ hp w):c.Wide w:=
 ⟨h.plen,h.pw,Cl h.prd hS,h.glen,h.gw,Cl h.grd hS,fun g hg=>⟨(h.ids g hg).1,(h.ids g hg).2.1,Cl (h.ids g hg).2.2 hS⟩⟩
theorem A7a {w0:World} {hp:List Res} {dim least term:Int} {ps:List PlS} {gs:List GrS} {j k:Nat} {e:TypeId} (hj:hp[j]?=some (.onn e 3 (.c (vC (ps.flatMap plV))))) (hk:hp[k]?=some (.abs (Ep gs))) (h1:ps.length≤1000000) (h2:gs.length≤1000000) (h3:∀g∈gs,g.ids.length≤1000000):
  Iw w0 hp (.x (.g [.v (.int .i64 dim),.o j,.o k,.v (.int .i64 least),.v (.int .i64 term)])) ⟨dim,ps,gs,least,term⟩:=fun γ w hS=>by
 obtain⟨A,cap,e1,e2,e3⟩:=La (n:=ps.length) hS hj (K9 γ _) (by rw[Cc Iv])
 have e4:=e3.rd rfl fun b hb=>(hS.mine j _ b hj hb).2
 obtain⟨_,hlt,gR,A2,cap2,rfl,f1,f2,f3⟩:=hS.holds k _ hk
 rw[f1] at f2
 have f4:=f2.rd rfl hlt
 rw[List.length_map] at h2
 refine⟨⟨dim,⟨A,cap,ps⟩,⟨A2,cap2,gR⟩,least,term⟩,?_,⟨e4.1,h1,e4.2,f4.1,h2,f4.2,fun g hg=>?_⟩,rfl⟩
 ·show Value.agg [_,nmS γ j,nmS γ k,_,_].toArray=_
  rw[e1,f1]
  rfl
 ·have:=(f3 g hg).rd (A:=g.ids.A) (c:=g.ids.c) rfl hlt
  exact⟨this.1,h3 g.gr (List.mem_map_of_mem hg),this.2⟩
def H7 (c:CfS):Bool:=decide (30 < c.places.length)||(decide (30 < c.groups.length)||c.groups.any fun g=>decide (30 < g.ids.length))
theorem A7b {c:CfS} (h:H7 c=false):c.places.length≤30∧c.groups.length≤30∧∀g∈c.groups,g.ids.length≤30:=by
 unfold H7 at h
 rw[Bool.or_eq_false_iff,Bool.or_eq_false_iff,List.any_eq_false] at h
 obtain⟨h1,h2,h3⟩:=h
 have h1:=of_decide_eq_false h1
 have h2:=of_decide_eq_false h2
 refine⟨by omega,by omega,fun g hg=>?_⟩
 have:=h3 g hg
 simp only[decide_eq_true_eq] at this
 omega
attribute [local irreducible] Ad Ae Ah Au Am Ap Ai Ao
attribute [local irreducible] vC
section
end
end Go.Proofs.YtedaafmfjhjfmaaGreatDoor
