import Derived.Test.YtedaafmfjhjfmaaGreatDoorDrT
import Derived.Test.YtedaafmfjhjfmaaGreatDoorPreA
import Derived.Test.YtedaafmfjhjfmaaGreatDoorMg29
import Derived.Test.YtedaafmfjhjfmaaGreatDoorMgE29
/- Law 29: ints. -/
namespace Go.Proofs.YtedaafmfjhjfmaaGreatDoor
open _root_.Go.Proofs.Tryz
set_option linter.unusedSimpArgs false
set_option linter.unusedVariables false
section
open Go.RowKit
attribute [local irreducible] Ac Ad Ah Au Ao Aj Ai Al
section
variable (a b:List Int) (A:Option Addr) (c:Nat) (A2:Option Addr) (c2:Nat) (w:World) (hm:a.length≤100000) (hR:RdV w w.heap.size A (a.map (Value.int .i64))) (hR2:RdV w w.heap.size A2 (b.map (Value.int .i64)))
include hm hR hR2
end
end
section
open Go.RowKit Go.Extern.Stop Go.Stop Go.Extern
end
section
open Go.RowKit
def Pi (ids:List Int) (ge:Int):MgS:={D1 6 with pl:=1,ge:=ge,ids:=ids,xs:=[7],ps:=[(3,2),(5,4)],ns:=[1,2]}
def pT0:Sms:=Sms.new Fx 0
def pT1:Sms:=pT0.take (Pi [3] 2)
def pT2:Sms:=pT1.take (Pi [3,5] 2)
def pT3:Sms:=pT2.take (Pi [3,5] 2)
def pT4:Sms:=pT3.take (Pi [3,5] 1)
end
section
open Go.RowKit
section
variable {P:Program} {w0:World} {ow:Nat→Prop} {n:Nat}
theorem Ax3 {ι:Type} (Q:ι→Prop) (sv:ι→Sv) (hq:ι→List Res) {ops:List Oper} {o:Oper} {p:List (Nat×Bool)} {f:FuncId} {xs:List Operand} {tys:Array TypeId} {s:S} {svs:List Sv} {K:S→Prop} (ho:o.op=.call {callee:=.value (.func f),args:=xs.toArray,argTypes:=tys})
  (hcb:Ac P f) (hev:evs s.fr xs=some svs) (hc:∀γ w,Sat w0 ow γ s.hp w→Calls P f (svs.map (Sv.val γ)).toArray w fun e w'=>∃i δ,Q i∧e=.returned ((sv i).val (γ++δ))∧Sat w0 ow (γ++δ) (s.hp++hq i) w') (hd:dOk n o.dst) (hb:s.bnd)
  (h:∀i,Q i→Al P w0 ow n ops p (S.put ⟨s.fr,s.hp++hq i⟩ o.dst (sv i)) K):Au P w0 ow n ops o p s K:=by
 intro γ a w hf
 unfold Oper.wp
 rw[Io ho rfl hcb (args:=(svs.map (Sv.val γ)).toArray) (by rw[List.map_toArray,Gk hf hev])]
 simp only[Oper.upon]
 refine (hc γ w hf.sat).mono ?_
 rintro e w' ⟨i,δ,hi,rfl,hS'⟩
 have hfit:=hf.put (d:=o.dst) hS' (fun t sv' ht=>Sv.ext (by rw[hf.sat.len];exact hb.1 _ (Fr.get_mem ht))) hd (v:=sv i) rfl
 have hhp:(S.put ⟨s.fr,s.hp++hq i⟩ o.dst (sv i)).hp=s.hp++hq i:=by cases o.dst<;>rfl
 have h2:=Iq p _ _ _ _ (h i hi) hfit
 rw[hhp] at h2
 show ∃C2:World→Prop,_
 exact⟨_,hS',fun x hx=>hx.front hf.sat.len hb.2,h2⟩
theorem Ax4 {A M:List Res} (l0:List Nat) {ops rest:List Oper} {o:Oper} {s:S} {K:S→Prop} (hs:s.hp=A++M) (hp:0 < A.length) (hbA:∀r∈A,Res.bnd A.length r) (hb:s.bnd) (hfr:∀x∈keepS l0 s.fr,Sv.bnd A.length x.2)
  (hM:∀r∈M,Res.bnd 0 r) (h:∀γ w,Sat w0 ow γ s.hp w→Ah P w (fun b=>∃(k:Nat) (r:Res),A[k]?=some r∧r.has γ k b) n ops o rest ⟨keepS l0 s.fr,A⟩ fun s'=>∃(A' N:List Res) (l:List Nat),s'.hp=A'++N∧A'.length=A.length∧(∀r∈A',Res.bnd A.length r)∧(∀x∈keepS l s'.fr,Sv.bnd A.length x.2)∧K ⟨keepS l s'.fr,A'++M⟩):Ah P w0 ow n ops o rest s K:=by
 rintro a w ⟨γ,hf⟩ hwt
 have hS:Sat w0 ow γ (A++M) w:=by rw[←hs];exact hf.sat
 have hbr:∀r∈A++M,Res.bnd (A++M).length r:=by rw[←hs];exact hb.2
 have hl:=hS.len
 rw[List.length_append] at hl
 have e:∀k,k < A.length→(γ.take A.length)[k]?=γ[k]?:=fun k hk=>List.getElem?_take_of_lt hk
 refine Jk (fun ex a' w' hq=>?_) _ _ _ (h γ w hf.sat a w ⟨_,hS.frontA hbA,hf.defers,hf.size,fun u sv hu=>?_⟩ hwt)
 ·obtain⟨h0,s',⟨γ1,hf1⟩,A',N,l,h1,h2,h3,h4,h5⟩:=hq
  refine⟨h0,?_⟩
  have hS1:Sat w (fun b=>∃(k:Nat) (r:Res),A[k]?=some r∧r.has γ k b) γ1 (A'++N) w':=by rw[←h1];exact hf1.sat
  have hS2:=hS1.frontOf (by rw[h2];exact h3)
  obtain⟨γ',hS',hag⟩:=hS.frame hS2 (fun b hb=>hb) h2 hp hbr h3 hM
  refine⟨_,⟨γ',hS',hf1.defers,hf1.size,fun u sv hu=>?_⟩,h5⟩
  rw[hf1.at_ u sv (Ky l _ _ _ hu)]
  refine (Sv.eqv (n:=A.length) (fun i hi=>?_) (h4 _ (Fr.get_mem hu))).symm
  have e2:(γ1.take A'.length)[i]?=γ1[i]?:=List.getElem?_take_of_lt (by omega)
  constructor
  ·unfold nmB;rw[hag i hi,e2]
  ·unfold nmS;rw[hag i hi,e2]
 ·rw[hf.at_ u sv (Ky l0 _ _ _ hu)]
  refine (Sv.eqv (n:=A.length) (fun i hi=>?_) (hfr _ (Fr.get_mem hu))).symm
  constructor
  ·unfold nmB;rw[e i hi]
  ·unfold nmS;rw[e i hi]
end
attribute [local irreducible] Ac Ad Ah Au Ao Aj Ai Al
section
variable {w0:World} {ow:Nat→Prop} {hp:List Res}
theorem Ax5 {m n:MgR} (h1:MgF m w0 ow) (h2:MgF n w0 ow):Ad prog w0 ow 18 [.x (.g (mgA m)),.x (.g (mgA n))] hp (.x (.a (.v (.bool (J1 m.mg n.mg))))) hp:=Bc fun γ w hS=>by
 have:=Adm m n w (h1.ok hS) (h2.ok hS)
 have e:List.map (Sv.val γ) [.x (.g (mgA m)),.x (.g (mgA n))]=List.map (Sv.val []) [.x (.g (mgA m)),.x (.g (mgA n))]:=by
  simp only[List.map_cons,List.map_nil,Bi]
 rw[e]
 exact this
end
structure FLw {α:Type} [Inhabited α] (m:Nat) (e:α→List Value) (w:World) (ow:Nat→Prop) (A:Option Addr) (l:List α):Prop where
 some_:0 < l.length→A.isSome=true
 cell:∀i k v,i < l.length→(e (ix l i))[k]?=some v→A7 w (Af A (i*m+k))=v∧Cu w ow (Af A (i*m+k))
theorem Ax6 {α:Type} [Inhabited α] {e:α→List Value} {m:Nat} {l:List α} (hm:∀x∈l,(e x).length=m) (i j:Nat) (hi:i < l.length) (hj:j < m):(l.flatMap e)[i*m+j]?=(e (ix l i))[j]?:=by
 classical
 have h1:∀x,(if (e x).length=m then e x else List.replicate m Value.nilIface).length=m:=fun x=>by
  by_cases h:(e x).length=m
  ·rw[if_pos h];exact h
  ·rw[if_neg h];exact List.length_replicate
 have h2:l.flatMap e=l.flatMap fun x=>if (e x).length=m then e x else List.replicate m Value.nilIface:=by
  clear h1 hi
  induction l with
  |nil=>rfl
  |cons x l ih=>
   rw[List.flatMap_cons,List.flatMap_cons,if_pos (hm x (List.mem_cons_self ..)),ih fun y hy=>hm y (List.mem_cons_of_mem _ hy)]
 rw[h2,Jo h1 l i j hi hj,if_pos (hm _ (Ez hi))]
theorem Aew {α:Type} {e:α→List Value} {m:Nat}:∀{l:List α},(∀x∈l,(e x).length=m)→(l.flatMap e).length=l.length*m
 |[],_=>by simp
 |x::l,h=>by rw[List.flatMap_cons,List.length_append,h x (List.mem_cons_self ..),Aew fun y hy=>h y (List.mem_cons_of_mem _ hy),List.length_cons,Nat.add_mul];omega
theorem FLw.of {α:Type} [Inhabited α] {m:Nat} {e:α→List Value} {w:World} {ow:Nat→Prop} {A:Option Addr} {l:List α} (hm:∀x∈l,(e x).length=m) (h0:0 < m) (hR:FW w ow A (l.flatMap e)):FLw m e w ow A l:=by
 have F:=hR.fv
 refine⟨fun hp=>F.some_ (by rw[Aew hm];exact Nat.mul_pos hp h0),fun i k v hi hv=>?_⟩
 have hk:k < m:=by
  have:=(List.getElem?_eq_some_iff.1 hv).1
  rwa [hm _ (Ez hi)] at this
 exact F.cell (by rw[Ax6 hm i k hi hk];exact hv)
theorem Aex {w:World} {ow:Nat→Prop} {A:Option Addr}:∀(n off:Nat),(∀k,k < n→Cu w ow (Af A (off+k)))→F4 w ow A n off
 |0,_,_=>trivial
 |n+1,off,h=>⟨by have:=h 0 (by omega);rwa [Nat.add_zero] at this,Aex n (off+1) fun k hk=>by have:=h (k+1) (by omega);rwa [show off+(k+1)=off+1+k by omega] at this⟩
theorem FLw.part {α:Type} [Inhabited α] {m:Nat} {e:α→List Value} {w:World} {ow:Nat→Prop} {A:Option Addr} {l:List α} (h:FLw m e w ow A l) {i off n:Nat} {vs:List Value} (hi:i < l.length) (hn:vs.length=n) (hv:∀k v,vs[k]?=some v→(e (ix l i))[off+k]?=some v):
  Cl w (Af A (i*m+off)) n 0=vs.map At.v∧F4 w ow (Af A (i*m+off)) n 0:=by
 constructor
 ·refine Ol n 0 _ hn fun k v hk=>?_
  rw[Ce,Nat.zero_add,Nat.add_assoc]
  exact (h.cell i _ v hi (hv k v hk)).1
 ·refine Aex n 0 fun k hk=>?_
  rw[Ce,Nat.zero_add,Nat.add_assoc]
  exact (h.cell i _ _ hi (hv k _ (List.getElem?_eq_getElem (by omega)))).2
theorem Tm {m:MgR} (h:m.sm.length=32):(mgV m).length=43:=by simp [mgV,h]
instance:Inhabited MgR:=⟨zeroR⟩
instance:Inhabited SnR:=⟨⟨false,0,zeroR⟩⟩
instance:Inhabited SnS:=⟨⟨false,0,Fk⟩⟩
theorem Xb {x:SnR} (h:x.m.sm.length=32):(snV x).length=45:=by simp [snV,Tm h]
theorem FLw.msg {w:World} {ow:Nat→Prop} {A:Option Addr} {l:List SnR} (h:FLw 45 snV w ow A l) {i:Nat} (hi:i < l.length) (hs:(ix l i).m.sm.length=32):
  Cl w (Af A (i*45+2)) 43 0=mgA (ix l i).m∧F4 w ow (Af A (i*45+2)) 43 0:=by
 have:=h.part (off:=2) (n:=43) (vs:=mgV (ix l i).m) hi (Tm hs) fun k v hk=>by
  unfold snV
  rw[List.getElem?_append_right (by show 2≤2+k;omega)]
  rw[show 2+k - [Value.bool (ix l i).c,.int .i64 (ix l i).to].length=k by simp]
  exact hk
 rw[Oz] at this
 exact this
theorem FLw.whole {w:World} {ow:Nat→Prop} {A:Option Addr} {l:List MgR} (h:FLw 43 mgV w ow A l) {i:Nat} (hi:i < l.length) (hs:(ix l i).sm.length=32):
  Cl w (Af A (i*43)) 43 0=mgA (ix l i)∧F4 w ow (Af A (i*43)) 43 0:=by
 have:=h.part (off:=0) (n:=43) (vs:=mgV (ix l i)) hi (Tm hs) fun k v hk=>by rw[Nat.zero_add];exact hk
 rw[Oz,Nat.add_zero] at this
 exact this
theorem Ax7 {w0 w:World} {B:Nat→Prop} {γ:List Nm} {hp:List Res} (hg:Handle w0) (hS:Sat w0 No γ hp w) (hB:∀b,B b→∃(k:Nat) (r:Res),hp[k]?=some r∧r.has γ k b):¬B 0:=fun h=>by
 obtain⟨k,r,h1,h2⟩:=hB _ h
 rcases (hS.mine k r _ h1 h2).1 with h3|h3
 ·exact h3
 ·have:=block_lt_of_cell hg
  have e:(⟨0,0,none⟩:Addr).block=0:=rfl
  rw[e] at this
  omega
end
section
open Go.RowKit
def Ax8 (c:CfS) (p:Int) (g:GrS):Bool:=decide (g.place=p)||decide (p∈abF c.places g.place.toNat)
def Ax9 (c:CfS) (p:Int):List Int:=c.groups.flatMap fun g=>if Ax8 c p g=true then g.ids else []
def Xc (l:List Int) (n:Nat):Bool:=decide ((n:Int)∈l)
def Aya (how:Int) (x y:Bool):Bool:=(decide (how=0)&&(x||y))||(decide (how=1)&&(x&&y))||(decide (how=2)&&(x&&!y))
def Ayb (how:Int) (a b:List Int) (k:Nat):List Int:=((List.range k).filter fun n=>Aya how (Xc a n) (Xc b n)).map Int.ofNat
theorem Pj {α:Type} [Inhabited α] {l:List α} {i:Nat} (h:i < l.length):ix l i=l[i]:=by simp [ix,List.getD_eq_getElem?_getD,List.getElem?_eq_getElem h]
attribute [local irreducible] Ac Ad Ah Au Ao Aj Ai Al
attribute [local irreducible] A9 okV Ak cfF tcF isP ofP abF idxN Cg B2 Xc Ayb Ax9
section
end
section
variable (c:CfR) (w:World)
end
end
section
theorem Ayc (c:CfS) (a:Nat):(Ge c a).above=abF c.places a:=by
 unfold Ge
 split<;>rfl
theorem Ayd {c:CfS} {p:Int} {a:Nat} (ha:a < c.places.length):ix (Sms.new c p).spots a=Ge c a:=by
 show ix ((List.range c.places.length).map (Ge c)) a=_
 rw[ix,List.getD_eq_getElem?_getD,List.getElem?_map,List.getElem?_range ha]
 rfl
theorem Aye (c:CfS) (p:Int):(Sms.new c p).spots.length=c.places.length:=by
 show ((List.range c.places.length).map (Ge c)).length=_
 rw[List.length_map,List.length_range]
end
section
def Tal.goneS (t:Tal) (id:Int):Tal:={t with gone:=Ak t.gone [id]}
structure HbS where
 place:Int
 gen:Int
 parent:Int
 above:List Int
 under:List Int
 next:List (Int×List Int)
 tally:Tal
 sums:Sms
 phase:Int
def HbS.again (h:HbS):List SnS:=if h.phase=1∧0≤h.parent then [⟨false,h.parent,h.sums.all h.gen⟩] else []
def HbS.on (h:HbS):HbS×List SnS:=
 if h.phase=0∧h.tally.st=1 then ({h with phase:=1},({h with phase:=1}:HbS).again)
 else if h.phase=0∧h.tally.st=2 then ({h with phase:=2},if 0≤h.parent then [⟨false,h.parent,{D1 17 with ge:=h.gen,ids:=[h.place]}⟩] else [])
 else (h,[])
def HbS.sum (h:HbS) (m:MgS):HbS:={h with sums:=h.sums.take m}
def HbS.talC (h:HbS) (p:Int):HbS:=if p∈h.under then {h with tally:=if h.tally.can p=0 then h.tally.came p else h.tally} else h
def HbS.partial_ (h:HbS) (m:MgS):HbS×List SnS×Int:=
 if h.phase≠0 then (h,[],9)
 else if h.sums.takeE m≠0 then (h.sum m,[],h.sums.takeE m)
 else (((h.sum m).talC m.pl).on.1,⟨false,m.pl,{D1 7 with pl:=m.pl,ge:=m.ge}⟩::((h.sum m).talC m.pl).on.2,0)
def HbS.talG (h:HbS) (p:Int):HbS:={h with tally:=if h.tally.can p=0 then h.tally.goneS p else h.tally}
def HbS.lost (h:HbS) (m:MgS):HbS×List SnS×Int:=
 if h.phase≠0 then (h,[],9)
 else if m.ids.length≠1∨ix m.ids 0∉h.under then (h,[],2)
 else if h.tally.can (ix m.ids 0)≠0 then (h,[],h.tally.can (ix m.ids 0))
 else ((h.talG (ix m.ids 0)).on.1,(h.talG (ix m.ids 0)).on.2,0)
def HbS.hear (h:HbS) (m:MgS):HbS×List SnS×Int:=
 if Bq m=false then (h,[],1)
 else if m.k=6 then h.partial_ m
 else if m.k=17 then h.lost m
 else if m.k=16 then (if m.pl≠h.place∨m.ot∉h.above then (h,[],2) else ({h with parent:=m.ot},({h with parent:=m.ot}:HbS).again,0))
 else if m.k=15 then (if h.parent < 0∨m.pl≠h.parent then (h,[],2) else (h,h.again,0))
 else if m.k=7 then (if m.pl≠h.place then (h,[],2) else (h,[],0))
 else (h,[],1)
def HbS.tick (h:HbS):HbS×List SnS:=if h.phase=0 then ({h with tally:=h.tally.tick}:HbS).on else (h,[])
def HbS.movesTo (h:HbS) (l:List Int):List SnS:=l.map fun q=>⟨false,q,{D1 16 with pl:=q,ot:=h.place,ge:=h.gen}⟩
def HbS.goneE (h:HbS) (p:Int):HbS×List SnS×Int:=
 if p∉h.under then (h,[],2)
 else if h.phase=0 then ((h.talG p).on.1,h.movesTo ((Az h.next p).getD [])++(h.talG p).on.2,0)
 else (h,h.movesTo ((Az h.next p).getD []),0)
structure SmFine (s:Sms):Prop where
 inv:SmInv s
 sp:s.spots.length≤16
 root:∀q,s.und 0 q=false
 dim:1≤s.dim∧s.dim≤32
theorem Ayf {s s':Sms} (h:s'.spots=s.spots):s'.und=s.und:=by
 funext q p
 unfold Sms.und
 rw[h]
theorem SmFine.take {s:Sms} (h:SmFine s) (m:MgS):SmFine (s.take m):=by
 obtain⟨e1,e2,e3,e4⟩:=Oe s m
 exact⟨V1 h.inv m,by rw[e1];exact h.sp,fun q=>by rw[Ayf e1];exact h.root q,by rw[e3];exact h.dim⟩
theorem SmFine.key {s:Sms} (h:SmFine s):∀t∈s.taken,1≤t.1∧t.1 < 16:=fun t ht=>by
 obtain⟨h1,h2⟩:=h.inv.ok t ht
 have hu:=(K5 h1).und
 have hp:0≤t.2.pl∧t.2.pl < s.spots.length:=by
  have:=hu
  unfold Sms.und at this
  rw[Bool.and_eq_true,decide_eq_true_eq] at this
  exact this.1
 have h0:t.2.pl≠0:=fun e=>by
  rw[e,h.root] at hu
  cases hu
 have:=h.sp
 omega
theorem Aey:∀{n:Nat} {l:List Nat},l.Nodup→(∀i∈l,i < n)→l.length≤n
 |0,l,_,h=>by
  cases l with
  |nil=>exact Nat.le_refl _
  |cons a l=>exact absurd (h a (List.mem_cons_self ..)) (Nat.not_lt_zero _)
 |n+1,l,hd,h=>by
  have h2:=Aey (n:=n) (l:=l.erase n) (hd.erase n) fun i hi=>by
   have h3:=h i (List.mem_of_mem_erase hi)
   have h4:i≠n:=fun e=>by
    subst e
    exact (List.Nodup.not_mem_erase hd) hi
   omega
  by_cases hn:n∈l
  ·have:=List.length_erase_of_mem hn
   omega
  ·rw[List.erase_of_not_mem hn] at h2
   omega
theorem SmFine.few {s:Sms} (h:SmFine s):s.taken.length≤15:=by
 have hk:=V2 h.inv
 have hd:(s.taken.map fun t=>t.1.toNat - 1).Nodup:=by
  unfold List.Nodup at hk ⊢
  rw[List.pairwise_map] at hk ⊢
  refine hk.imp_of_mem fun {a b} ha hb hn=>?_
  have h1:=h.key a ha
  have h2:=h.key b hb
  omega
 have:=Aey (n:=15) hd fun i hi=>by
  obtain⟨t,ht,rfl⟩:=List.mem_map.1 hi
  have:=h.key t ht
  omega
 rwa [List.length_map] at this
theorem Ayg {s:Sms} {pl:Int} {ids peers:List Int}:∀(n:Nat) (l:List UInt64),l.length≤n→∀(last:Int) (rest:List Int),-1≤last→last < s.spots.length→Ek s pl ids peers l last rest=true→(l.length:Int)≤2*(s.spots.length - 1 - last)+1:=by
 intro n
 induction n with
 |zero=>
  intro l hl last rest h0 h1 h
  obtain rfl:=List.length_eq_zero_iff.1 (Nat.le_zero.1 hl)
  show (0:Int)≤_
  omega
 |succ n ih=>
  intro l hl last rest h0 h1 h
  match l,hl with
  |[],_=>show (0:Int)≤_;omega
  |[a],_=>show (1:Int)≤_;omega
  |a::b::r,hl=>
   rw[Ek] at h
   split at h
   ·cases h
   split at h
   ·cases h
   split at h
   ·cases h
   rename_i g1 g2 g3
   have:=ih r (by simp only[List.length_cons] at hl;omega) a.toNat _ (by omega) (by omega) h
   have g4:¬(a.toNat:Int)≤last:=fun e=>g2 (.inl e)
   simp only[List.length_cons]
   omega
theorem SmFine.allFew {s:Sms} (h:SmFine s) (ge:Int):(s.all ge).Few:=by
 have hp:=V3 h.inv
 have hlen:s.msgs.length≤15:=by
  rw[hp.length_eq,List.length_map]
  exact h.few
 have hmay:∀m∈s.msgs,MayP s m:=fun m hm=>by
  obtain⟨t,ht,rfl⟩:=List.mem_map.1 (hp.mem_iff.1 hm)
  exact K5 (h.inv.ok t ht).1
 have hps:∀m∈s.msgs,m.ps.length≤64:=fun m hm=>(Aqt (hmay m hm).ps).1
 have hsp:=h.sp
 have hns:∀m∈s.msgs,(Ct m.ns).length≤33:=fun m hm=>by
  have:=Ayg _ _ (Nat.le_refl _) _ _ (by omega) (by omega) (hmay m hm).go
  have h2:=O7 m.ns
  omega
 refine⟨rfl,?_,?_,?_,?_⟩
 ·have:=V4 s.msgs [] rfl fun t ht=>(hmay t ht).ids
  have:=Wu this.1
  show (Mj s).length≤1000
  unfold Mj
  omega
 ·show ((D5 paK (s.msgs.flatMap fun m=>Ct m.ns)).flatMap fun p=>[p.1,p.2]).length≤1000
  have h1:=J3 (f:=fun p:UInt64×UInt64=>[p.1,p.2]) (K:=2) (l:=D5 paK (s.msgs.flatMap fun m=>Ct m.ns)) fun x _=>Nat.le_refl 2
  have h2:=J3 hns
  rw[Ta] at h1
  have h3:33*s.msgs.length≤33*15:=Nat.mul_le_mul_left _ hlen
  omega
 ·show (D5 prK (s.msgs.flatMap (·.ps))).length≤1000
  have h2:(s.msgs.flatMap (·.ps)).length≤64*s.msgs.length:=J3 hps
  rw[Ta]
  have h3:64*s.msgs.length≤64*15:=Nat.mul_le_mul_left _ hlen
  omega
 ·show (Jv s).length≤1000
  have hd:=h.dim
  have:(Jv s).length=s.dim.toNat:=by
   rw[Acg h.inv]
   unfold Mi
   have:∀(l:List (Int×MgS)) (z:List UInt32),(∀t∈l,t.2.xs.length=z.length)→(l.foldl (fun r t=>Bz r t.2.xs) z).length=z.length:=by
    intro l
    induction l with
    |nil=>intro z _;rfl
    |cons t l ih=>
     intro z hz
     rw[List.foldl_cons]
     have e:=Acf (a:=z) (b:=t.2.xs) (hz t (List.mem_cons_self ..)).symm
     rw[ih _ fun u hu=>by rw[e];exact hz u (List.mem_cons_of_mem _ hu),e]
   rw[this _ _ fun t ht=>by
    rw[List.length_replicate]
    have:=(K5 (h.inv.ok t ht).1).len
    omega,List.length_replicate]
  rw[this]
  omega
end
end Go.Proofs.YtedaafmfjhjfmaaGreatDoor
