import Derived.Test.YtedaafmfjhjfmaaGreatDoorDrT
import Derived.Test.YtedaafmfjhjfmaaGreatDoorPreA
import Derived.Test.YtedaafmfjhjfmaaGreatDoorMg29
import Derived.Test.YtedaafmfjhjfmaaGreatDoorMgE29
/- Law 29: ints. -/
namespace Go.Proofs.YtedaafmfjhjfmaaGreatDoor
open Go.RowKit
set_option linter.unusedSimpArgs false
set_option linter.unusedVariables false
attribute [local irreducible] Ad Ae Ah Ar Ak Am Ai Al
section
variable (a b:List Int) (A:Option Addr) (c:Nat) (A2:Option Addr) (c2:Nat) (w:World) (hm:a.length≤100000) (hR:RdV w w.heap.size A (a.map (Value.int .i64))) (hR2:RdV w w.heap.size A2 (b.map (Value.int .i64)))
include hm hR hR2
set_option maxRecDepth 100000 in
theorem A5j:Calls Tryz.prog 29 #[.slice A a.length c,.slice A2 b.length c2] w fun e w'=>e=.returned (.bool (decide (a=b)))∧Below w.heap.size w w':=by
 have F:=FM.of hR
 have G:=FM.of hR2
 refine Ba (n:=26) Tryz.func29 rfl Tryz.ntmps29 [.x (.a (.v (.slice A a.length c))),.x (.a (.v (.slice A2 b.length c2)))] (by simp) (.x (.a (.v (.bool (decide (a=b)))))) (fun _=>rfl) ?_
 by_cases hl:(a.length:Int)=b.length
 ·simp only[hl,push_cast,↓reduceIte,reduceCtorEq,Nat.reduceEqDiff,Nat.reduceLT]
  refine Bh (ι:=Nat) (fun k=>⟨[(0,.x (.a (.v (.slice A a.length c)))),(1,.x (.a (.v (.slice A2 b.length c2)))),(5,.x (.a (.v (.int .i64 k))))],[]⟩) (fun k=>k≤b.length∧∀j,j < k→ix a j=ix b j) (fun k=>b.length - k) 0 [] ⟨by omega,fun j h=>by omega⟩ ?_ ?_
  ·simp only[push_cast,↓Int.cast_ofNat_Int,Int.cast_ofNat_Int,↓reduceIte,reduceCtorEq,Nat.reduceEqDiff]
  ·rintro k ⟨hk,hj⟩
   by_cases hlt:(k:Int) < a.length
   ·have c0:=F.cell k (by omega)
    have o0:=F.ok k (by omega)
    have d0:=G.cell k (by omega)
    have p0:=G.ok k (by omega)
    have hA:=F.some_ (by omega)
    have hA2:=G.some_ (by omega)
    have hlb:(k:Int) < b.length:=by omega
    by_cases he:ix a k=ix b k
    ·simp only[hlt,push_cast,↓reduceIte,reduceCtorEq,Nat.reduceEqDiff,Nat.reduceLT]
     (repeat (refine And.intro (by first|omega|decide) ?_))
     refine Dp [(0,true),(1,true),(2,true),(3,true),(4,true),(5,true),(6,true),(7,true),(8,true)] (by kernel_rfl) (by kernel_rfl) rfl (by kernel_rfl) ?_
     simp only[hlt,hlb,c0,o0,d0,p0,hA,hA2,he,push_cast,↓Int.toNat_natCast,↓reduceIte,reduceCtorEq,Nat.reduceEqDiff,Nat.reduceLT,Int.reduceNeg]
     (repeat (refine And.intro (by first|omega|decide) ?_))
     refine Be (k+1) [] ⟨by omega,fun j h=>?_⟩ (by omega) ?_
     ·by_cases e:j=k
      ·rw[e];exact he
      ·exact hj j (by omega)
     ·simp only[push_cast,↓reduceIte,reduceCtorEq,Nat.reduceEqDiff]
    ·have hne:¬a=b:=fun e=>he (by rw[e])
     simp only[hlt,push_cast,↓reduceIte,reduceCtorEq,Nat.reduceEqDiff,Nat.reduceLT]
     (repeat (refine And.intro (by first|omega|decide) ?_))
     refine Dp [(0,true),(1,true),(2,true),(3,true),(4,true),(5,true),(6,true),(7,true),(8,true)] (by kernel_rfl) (by kernel_rfl) rfl (by kernel_rfl) ?_
     simp only[hlt,hlb,c0,o0,d0,p0,hA,hA2,he,hne,push_cast,↓Int.toNat_natCast,↓reduceIte,reduceCtorEq,Nat.reduceEqDiff,Nat.reduceLT]
     all_goals omega
   ·have hab:a=b:=Mu (by omega) fun j h=>hj j (by omega)
    have hd:decide (a=b)=true:=decide_eq_true hab
    simp only[hlt,hd,push_cast,↓reduceIte,reduceCtorEq,Nat.reduceEqDiff,Nat.reduceLT]
 ·have hne:=Mv hl
  simp only[hl,hne,push_cast,↓reduceIte,reduceCtorEq,Nat.reduceEqDiff,Nat.reduceLT]
end
end Go.Proofs.YtedaafmfjhjfmaaGreatDoor
/- An error's number (law 29's num): nil's is nought, an Errno's is its own. -/
namespace Go.Proofs.YtedaafmfjhjfmaaGreatDoor
open Go.RowKit Go.Extern.Stop Go.Stop Go.Extern
theorem A5k (w:World):Calls Tryz.prog 70 #[.nilIface] w fun e w'=>e=.returned (.int .i64 0)∧Below w.heap.size w w':=by
 go_enter Tryz.func70,Tryz.ntmps70
 go_wp2
 go_ret
 exact⟨rfl,(Below.refl _ _).alloc (Nat.le_refl _) _⟩
set_option maxRecDepth 220000 in
set_option maxHeartbeats 4000000 in
theorem A5l (n:Int) (w:World) (hg:Handle w):Calls Tryz.prog 70 #[.iface 91 (.int .i64 n)] w fun e w'=>e=.returned (.int .i64 n)∧Below w.heap.size w w':=by
 have hlt:0 < w.heap.size:=block_lt_of_cell hg
 have hgA:(w.alloc (.cells #[.int .i64 0] 91)).cell? ⟨0,0,none⟩=some (.iface 217 (.agg #[.pointer (some ⟨1,32,none⟩)])):=by
  rw[World.cell?_alloc_lt _ _ ⟨0,0,none⟩ hlt];exact hg
 have htA:(w.alloc (.cells #[.int .i64 0] 91)).cell? ⟨w.heap.size,0,none⟩=some (.int .i64 0):=by simp
 have hfA:(w.alloc (.cells #[.int .i64 0] 91)).frozen? ⟨w.heap.size,0,none⟩=false:=by simp
 go_enter Tryz.func70,Tryz.ntmps70
 go_wp2_with (go_at_call 103;refine (Adn n _ (.int .i64 0) _ hgA htA hfA).mono ?_;rintro e w' ⟨rfl,rfl⟩)
 go_ret
 refine⟨rfl,?_⟩
 exact (((((Below.refl w.heap.size w).alloc (Nat.le_refl _) _).alloc (by simp) _).alloc (by simp;omega) _).alloc (by simp;omega) _).alloc (by simp;omega) _
end Go.Proofs.YtedaafmfjhjfmaaGreatDoor
/- Law 29: what sure asks for, no program in sight. -/
namespace Go.Proofs.YtedaafmfjhjfmaaGreatDoor
open Go.RowKit
set_option linter.unusedSimpArgs false
set_option linter.unusedVariables false
def D4 (ids:List Int) (ge:Int):MgS:={F4 6 with pl:=1,ge:=ge,ids:=ids,xs:=[7],ps:=[(3,2),(5,4)],ns:=[1,2]}
def pT0:Sms:=Sms.new Hy 0
def pT1:Sms:=pT0.take (D4 [3] 2)
def pT2:Sms:=pT1.take (D4 [3,5] 2)
def pT3:Sms:=pT2.take (D4 [3,5] 2)
def pT4:Sms:=pT3.take (D4 [3,5] 1)
theorem A5m:pT0.takeE (D4 [3] 2)=13:=by decide+kernel
theorem A5n:pT1.takeE (D4 [3,5] 2)=0:=by decide+kernel
theorem A5o:pT2.takeE (D4 [3,5] 2)=8:=by decide+kernel
theorem A5p:pT3.takeE (D4 [3,5] 1)=10:=by decide+kernel
theorem Nd:pT4.taken=[(1,D4 [3,5] 2)]∧pT4.place=0∧pT4.dim=1:=by decide+kernel
theorem Abr:pT4.from_=[1]:=by
 unfold Sms.from_
 rw[Nd.1]
 exact List.mergeSort_singleton 1
theorem A5q:(pT4.all 1).pl=0∧(pT4.all 1).ge=1∧(pT4.all 1).xs=[7]:=by
 refine⟨?_,rfl,?_⟩
 ·show pT4.place=0
  exact Nd.2.1
 ·show Fe pT4=[7]
  unfold Fe Sms.msgs
  rw[Abr,Nd.1,Nd.2.2]
  rfl
end Go.Proofs.YtedaafmfjhjfmaaGreatDoor
/- Law 29: what its walk wants. -/
namespace Go.Proofs.YtedaafmfjhjfmaaGreatDoor
open Go.RowKit
set_option linter.unusedSimpArgs false
set_option linter.unusedVariables false
section
variable {P:Program} {w0:World} {ow:Nat→Prop} {n:Nat}
theorem Abt {A M:List Res} (l0:List Nat) {ops rest:List Oper} {o:Oper} {s:S} {K:S→Prop} (hs:s.hp=A++M) (hp:0 < A.length) (hbA:∀r∈A,Res.bnd A.length r) (hb:s.bnd) (hfr:∀x∈keepS l0 s.fr,Sv.bnd A.length x.2)
  (hM:∀r∈M,Res.bnd 0 r) (h:∀γ w,Sat w0 ow γ s.hp w→Ah P w (fun b=>∃(k:Nat) (r:Res),A[k]?=some r∧r.has γ k b) n ops o rest ⟨keepS l0 s.fr,A⟩ fun s'=>∃(A' N:List Res) (l:List Nat),s'.hp=A'++N∧A'.length=A.length∧(∀r∈A',Res.bnd A.length r)∧(∀x∈keepS l s'.fr,Sv.bnd A.length x.2)∧K ⟨keepS l s'.fr,A'++M⟩):Ah P w0 ow n ops o rest s K:=by
 rintro a w ⟨γ,hf⟩ hwt
 have hS:Sat w0 ow γ (A++M) w:=by rw[←hs];exact hf.sat
 have hbr:∀r∈A++M,Res.bnd (A++M).length r:=by rw[←hs];exact hb.2
 have hl:=hS.len
 rw[List.length_append] at hl
 have e:∀k,k < A.length→(γ.take A.length)[k]?=γ[k]?:=fun k hk=>List.getElem?_take_of_lt hk
 refine Jk (fun ex a' w' hq=>?_) _ _ _ (h γ w hf.sat a w ⟨_,hS.frontA hbA,hf.defers,hf.size,fun u sv hu=>?_⟩ hwt)
 ·obtain⟨h0,s',⟨γ1,hf1⟩,A',N,l,h1,h2,h3,h4,h5⟩:=hq
  refine⟨h0,?_⟩
  have hS1:Sat w (fun b=>∃(k:Nat) (r:Res),A[k]?=some r∧r.has γ k b) γ1 (A'++N) w':=by rw[←h1];exact hf1.sat
  have hS2:=hS1.frontOf (by rw[h2];exact h3)
  obtain⟨γ',hS',hag⟩:=hS.frame hS2 (fun b hb=>hb) h2 hp hbr h3 hM
  refine⟨_,⟨γ',hS',hf1.defers,hf1.size,fun u sv hu=>?_⟩,h5⟩
  rw[hf1.at_ u sv (Me l _ _ _ hu)]
  refine (Sv.eqv (n:=A.length) (fun i hi=>?_) (h4 _ (Fr.get_mem hu))).symm
  have e2:(γ1.take A'.length)[i]?=γ1[i]?:=List.getElem?_take_of_lt (by omega)
  constructor
  ·unfold nmB;rw[hag i hi,e2]
  ·unfold nmS;rw[hag i hi,e2]
 ·rw[hf.at_ u sv (Me l0 _ _ _ hu)]
  refine (Sv.eqv (n:=A.length) (fun i hi=>?_) (hfr _ (Fr.get_mem hu))).symm
  constructor
  ·unfold nmB;rw[e i hi]
  ·unfold nmS;rw[e i hi]
end
attribute [local irreducible] Ad Ae Ah Ar Ak Am Ai Al
section
variable {w0:World} {ow:Nat→Prop} {hp:List Res}
theorem A5r {m n:MgR} (h1:MgF m w0 ow) (h2:MgF n w0 ow):Ae Tryz.prog w0 ow 18 [.x (.g (mgA m)),.x (.g (mgA n))] hp (.x (.a (.v (.bool (Hr m.mg n.mg))))) hp:=A8 fun γ w hS=>by
 have:=Aaq m n w (h1.ok hS) (h2.ok hS)
 have e:List.map (Sv.val γ) [.x (.g (mgA m)),.x (.g (mgA n))]=List.map (Sv.val []) [.x (.g (mgA m)),.x (.g (mgA n))]:=by
  simp only[List.map_cons,List.map_nil,Bc]
 rw[e]
 exact this
theorem Abu {m:MgR} (w:World) (hm:m.Ok w):Calls Tryz.prog 25 #[.agg (mgV m).toArray] w fun e w'=>∃(x:MgR×List Fct) (γ1:List Nm),(x.1.mg=m.mg∧MOk x.2 x.1)∧e=.returned (.agg (mgV x.1).toArray)∧Sat w No γ1 [.abs (Aa x.2)] w':=by
 have h0:=A5i m w hm
 have e0:(List.map (Sv.val []) [.x (.g (mgA m))]).toArray=#[.agg (mgV m).toArray]:=by
  show #[(Sv.x (.g (mgA m))).val []]=_
  rw[Bc]
 rw[e0] at h0
 refine h0.mono fun e w' ⟨γ1,he,hS⟩=>?_
 have few:=hm.few
 have h0:=hS.fct0 (fun r hr=>by
  simp only[List.mem_cons,List.not_mem_nil,or_false] at hr
  rcases hr with rfl|rfl|rfl|rfl
  ·trivial
  ·trivial
  ·exact of_eq_true (by simp (maxSteps:=10^6) only[Gw,push_cast,Nat.reduceAdd])
  ·trivial)
 have hl1:=hS.len
 obtain⟨A1,c1,γ2,a1,b1,eB1,eS1,s1⟩:=h0.ownF (j:=0) (k:=4) (c:=.i64 m.ids.l) (vs:=m.ids.l.map (Value.int .i64)) (l:=[]) rfl rfl (by decide) (fun _=>rfl)
 obtain⟨A2,c2,γ3,a2,b2,eB2,eS2,s2⟩:=s1.ownF (j:=1) (k:=4) (c:=.u64 m.ns.l) (vs:=m.ns.l.map vU64) rfl rfl (by decide) (fun _=>rfl)
 obtain⟨A3,c3,γ4,a3,b3,eB3,eS3,s3⟩:=s2.onnF (j:=2) (k:=4) (vs:=pvs m.ps.l) (n:=m.ps.l.length) rfl rfl (by decide) (T6 γ3 m.ps.l) (Mm m.ps.l)
 obtain⟨A4,c4,γ5,a4,b4,eB4,eS4,s4⟩:=s3.ownF (j:=3) (k:=4) (c:=.u32 m.xs.l) (vs:=m.xs.l.map Ap) rfl rfl (by decide) (fun _=>rfl)
 rw[List.length_map] at a1 b1 a2 b2 a4 b4
 obtain⟨h7,_⟩:=s4.sel (ρ:=[4]) (hp0:=[.abs (Aa [⟨.slice A1 m.ids.l.length c1,m.ids.l.length,m.ids.l.map (Value.int .i64)⟩,⟨.slice A2 m.ns.l.length c2,m.ns.l.length,m.ns.l.map vU64⟩,⟨.slice A3 m.ps.l.length c3,m.ps.l.length,pvs m.ps.l⟩,⟨.slice A4 m.xs.l.length c4,m.xs.l.length,m.xs.l.map Ap⟩])]) ⟨by simp [Res.ren],trivial⟩ ⟨trivial,trivial⟩ (fun r hr=>by rw[List.mem_singleton.1 hr];trivial)
 refine⟨({m with ids:=⟨A1,c1,m.ids.l⟩,ns:=⟨A2,c2,m.ns.l⟩,ps:=⟨A3,c3,m.ps.l⟩,xs:=⟨A4,c4,m.xs.l⟩},[⟨.slice A1 m.ids.l.length c1,m.ids.l.length,m.ids.l.map (Value.int .i64)⟩,⟨.slice A2 m.ns.l.length c2,m.ns.l.length,m.ns.l.map vU64⟩,⟨.slice A3 m.ps.l.length c3,m.ps.l.length,pvs m.ps.l⟩,⟨.slice A4 m.xs.l.length c4,m.xs.l.length,m.xs.l.map Ap⟩]),_,⟨rfl,few.sm,.inr (List.mem_cons_self ..),.inr (List.mem_cons_of_mem _ (List.mem_cons_self ..)),.inr (List.mem_cons_of_mem _ (List.mem_cons_of_mem _ (List.mem_cons_self ..))),.inr (List.mem_cons_of_mem _ (List.mem_cons_of_mem _ (List.mem_cons_of_mem _ (List.mem_cons_self ..)))),few⟩,?_,h7⟩
 rw[he]
 have ex:∀i,i < 4→nmS (γ1++[Nm.m (.bool true) (fun _=>False)]) i=nmS γ1 i:=fun i hi=>Cx (by rw[hl1];exact hi)
 have x1:At.val γ1 (.o 0)=.slice A1 m.ids.l.length c1:=by
  show nmS γ1 0=_
  rw[←ex 0 (by decide)]
  exact a1
 have x2:At.val γ1 (.o 1)=.slice A2 m.ns.l.length c2:=by
  show nmS γ1 1=_
  rw[←ex 1 (by decide),←eS1]
  exact a2
 have x3:At.val γ1 (.o 2)=.slice A3 m.ps.l.length c3:=by
  show nmS γ1 2=_
  rw[←ex 2 (by decide),←eS1,←eS2]
  exact a3
 have x4:At.val γ1 (.o 3)=.slice A4 m.xs.l.length c4:=by
  show nmS γ1 3=_
  rw[←ex 3 (by decide),←eS1,←eS2,←eS3]
  exact a4
 show Ending.returned (.agg ((mgL _ _ _ _ _ _ _ _ _ _ _ _).map (At.val γ1)).toArray)=_
 rw[Zx,x1,x2,x3,x4]
 rfl
end
structure FLw {α:Type} [Inhabited α] (m:Nat) (e:α→List Value) (w:World) (ow:Nat→Prop) (A:Option Addr) (l:List α):Prop where
 some_:0 < l.length→A.isSome=true
 cell:∀i k v,i < l.length→(e (ix l i))[k]?=some v→Az w (Ag A (i*m+k))=v∧C5 w ow (Ag A (i*m+k))
theorem Abv {α:Type} [Inhabited α] {e:α→List Value} {m:Nat} {l:List α} (hm:∀x∈l,(e x).length=m) (i j:Nat) (hi:i < l.length) (hj:j < m):(l.flatMap e)[i*m+j]?=(e (ix l i))[j]?:=by
 classical
 have h1:∀x,(if (e x).length=m then e x else List.replicate m Value.nilIface).length=m:=fun x=>by
  by_cases h:(e x).length=m
  ·rw[if_pos h];exact h
  ·rw[if_neg h];exact List.length_replicate
 have h2:l.flatMap e=l.flatMap fun x=>if (e x).length=m then e x else List.replicate m Value.nilIface:=by
  clear h1 hi
  induction l with
  |nil=>rfl
  |cons x l ih=>
   rw[List.flatMap_cons,List.flatMap_cons,if_pos (hm x (List.mem_cons_self ..)),ih fun y hy=>hm y (List.mem_cons_of_mem _ hy)]
 rw[h2,Ik h1 l i j hi hj,if_pos (hm _ (Dr hi))]
theorem Nf {α:Type} {e:α→List Value} {m:Nat}:∀{l:List α},(∀x∈l,(e x).length=m)→(l.flatMap e).length=l.length*m
 |[],_=>by simp
 |x::l,h=>by rw[List.flatMap_cons,List.length_append,h x (List.mem_cons_self ..),Nf fun y hy=>h y (List.mem_cons_of_mem _ hy),List.length_cons,Nat.add_mul];omega
theorem FLw.of {α:Type} [Inhabited α] {m:Nat} {e:α→List Value} {w:World} {ow:Nat→Prop} {A:Option Addr} {l:List α} (hm:∀x∈l,(e x).length=m) (h0:0 < m) (hR:FW w ow A (l.flatMap e)):FLw m e w ow A l:=by
 have F:=hR.fv
 refine⟨fun hp=>F.some_ (by rw[Nf hm];exact Nat.mul_pos hp h0),fun i k v hi hv=>?_⟩
 have hk:k < m:=by
  have:=(List.getElem?_eq_some_iff.1 hv).1
  rwa [hm _ (Dr hi)] at this
 exact F.cell (by rw[Abv hm i k hi hk];exact hv)
theorem Abw {w:World} {ow:Nat→Prop} {A:Option Addr}:∀(n off:Nat),(∀k,k < n→C5 w ow (Ag A (off+k)))→Fj w ow A n off
 |0,_,_=>trivial
 |n+1,off,h=>⟨by have:=h 0 (by omega);rwa [Nat.add_zero] at this,Abw n (off+1) fun k hk=>by have:=h (k+1) (by omega);rwa [show off+(k+1)=off+1+k by omega] at this⟩
theorem FLw.part {α:Type} [Inhabited α] {m:Nat} {e:α→List Value} {w:World} {ow:Nat→Prop} {A:Option Addr} {l:List α} (h:FLw m e w ow A l) {i off n:Nat} {vs:List Value} (hi:i < l.length) (hn:vs.length=n) (hv:∀k v,vs[k]?=some v→(e (ix l i))[off+k]?=some v):
  Cc w (Ag A (i*m+off)) n 0=vs.map At.v∧Fj w ow (Ag A (i*m+off)) n 0:=by
 constructor
 ·refine Mq n 0 _ hn fun k v hk=>?_
  rw[B4,Nat.zero_add,Nat.add_assoc]
  exact (h.cell i _ v hi (hv k v hk)).1
 ·refine Abw n 0 fun k hk=>?_
  rw[B4,Nat.zero_add,Nat.add_assoc]
  exact (h.cell i _ _ hi (hv k _ (List.getElem?_eq_getElem (by omega)))).2
theorem H0 {m:MgR} (h:m.sm.length=32):(mgV m).length=43:=by simp [mgV,h]
instance:Inhabited MgR:=⟨zeroR⟩
instance:Inhabited SnR:=⟨⟨false,0,zeroR⟩⟩
instance:Inhabited SnS:=⟨⟨false,0,Fq⟩⟩
theorem FLw.msg {w:World} {ow:Nat→Prop} {A:Option Addr} {l:List SnR} (h:FLw 45 snV w ow A l) {i:Nat} (hi:i < l.length) (hs:(ix l i).m.sm.length=32):
  Cc w (Ag A (i*45+2)) 43 0=mgA (ix l i).m∧Fj w ow (Ag A (i*45+2)) 43 0:=by
 have:=h.part (off:=2) (n:=43) (vs:=mgV (ix l i).m) hi (H0 hs) fun k v hk=>by
  unfold snV
  rw[List.getElem?_append_right (by show 2≤2+k;omega)]
  rw[show 2+k - [Value.bool (ix l i).c,.int .i64 (ix l i).to].length=k by simp]
  exact hk
 rw[My] at this
 exact this
theorem FLw.whole {w:World} {ow:Nat→Prop} {A:Option Addr} {l:List MgR} (h:FLw 43 mgV w ow A l) {i:Nat} (hi:i < l.length) (hs:(ix l i).sm.length=32):
  Cc w (Ag A (i*43)) 43 0=mgA (ix l i)∧Fj w ow (Ag A (i*43)) 43 0:=by
 have:=h.part (off:=0) (n:=43) (vs:=mgV (ix l i)) hi (H0 hs) fun k v hk=>by rw[Nat.zero_add];exact hk
 rw[My,Nat.add_zero] at this
 exact this
theorem Abx {w0 w:World} {B:Nat→Prop} {γ:List Nm} {hp:List Res} (hg:Handle w0) (hS:Sat w0 No γ hp w) (hB:∀b,B b→∃(k:Nat) (r:Res),hp[k]?=some r∧r.has γ k b):¬B 0:=fun h=>by
 obtain⟨k,r,h1,h2⟩:=hB _ h
 rcases (hS.mine k r _ h1 h2).1 with h3|h3
 ·exact h3
 ·have:=block_lt_of_cell hg
  have e:(⟨0,0,none⟩:Addr).block=0:=rfl
  rw[e] at this
  omega
theorem Va {w0:World} {ow:Nat→Prop} {hp:List Res} (n:Int) (hg:Handle w0) (hno:¬ow 0):Ae Tryz.prog w0 ow 70 [.x (.a (.v (erV n)))] hp (.x (.a (.v (.int .i64 n)))) hp:=A8 fun γ w hS=>by
 have hlt:0 < w0.heap.size:=block_lt_of_cell hg
 have hg':Handle w:=by
  have hb:=hS.keeps.block _ hlt hno
  unfold Handle at hg ⊢
  unfold World.cell? at hg ⊢
  rw[hb]
  exact hg
 show Calls _ _ #[erV n] w _
 unfold erV
 split
 ·rename_i h
  rw[h]
  exact A5k w
 ·exact A5l n w hg'
end Go.Proofs.YtedaafmfjhjfmaaGreatDoor
