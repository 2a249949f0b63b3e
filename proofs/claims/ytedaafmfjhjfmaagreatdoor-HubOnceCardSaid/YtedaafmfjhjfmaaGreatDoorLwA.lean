import Derived.Test.YtedaafmfjhjfmaaGreatDoorPt2
import Derived.Test.YtedaafmfjhjfmaaGreatDoorLw3
/- Layer 29 walked: meet. -/
namespace Go.Proofs.YtedaafmfjhjfmaaGreatDoor
open _root_.Go.Proofs.Tryz
open Go.RowKit
set_option linter.unusedSimpArgs false
set_option linter.unusedVariables false
section
theorem Adq {l:List UInt64} {i:Nat} (h:i < l.length):evN (l.drop i)=ix l i::evN (l.drop (i+2)):=by
 rw[List.drop_eq_getElem_cons h]
 have e:ix l i=l[i]:=by simp only[ix,List.getD_eq_getElem?_getD,List.getElem?_eq_getElem h,Option.getD_some]
 rw[e]
 by_cases h1:i+1 < l.length
 ·rw[List.drop_eq_getElem_cons h1,evN]
 ·rw[List.drop_eq_nil_of_le (by omega),List.drop_eq_nil_of_le (by omega)]
  rfl
attribute [local irreducible] Ac Ad Ah Au Ao Aj Ai Al
attribute [local irreducible] By evN
set_option maxRecDepth 100000 in
set_option maxHeartbeats 2000000 in
theorem Avz (a b:MgR) (w:World) (ha:a.Ok w) (hb:b.Ok w):Calls prog 72 #[.agg (mgV a).toArray,.agg (mgV b).toArray] w fun e w'=>e=.returned (.bool (E0 a.mg b.mg))∧Below w.heap.size w w':=by
 have fwa:=ha.few
 have fwb:=hb.few
 have va:a.ns.val=.slice a.ns.A a.ns.l.length a.ns.c:=rfl
 have vb:b.ns.val=.slice b.ns.A b.ns.l.length b.ns.c:=rfl
 have pa:a.ps.val=.slice a.ps.A a.ps.l.length a.ps.c:=rfl
 have pb:b.ps.val=.slice b.ps.A b.ps.l.length b.ps.c:=rfl
 have ga:=Bd ha.s
 have gb:=Bd hb.s
 obtain⟨_,_,_,_,_,_,_,fa39,fa40,_,_⟩:=C8 ha.s
 obtain⟨_,_,_,_,_,_,_,fb39,fb40,_,_⟩:=C8 hb.s
 obtain⟨R,hR⟩:∃R,R=E0 a.mg b.mg:=⟨_,rfl⟩
 rw[←hR]
 have hR:R=(!(By (idsP a.ps.l) (idsP b.ps.l)).isEmpty||(evN a.ns.l).any fun x=>(evN b.ns.l).any fun y=>decide (x=y)):=hR
 have ea:a.ns.l.length≤1000:=fwa.ns
 have eb:b.ns.l.length≤1000:=fwb.ns
 have e0:#[Value.agg (mgV a).toArray,.agg (mgV b).toArray]=(List.map (Sv.val []) [.x (.g (mgA a)),.x (.g (mgA b))]).toArray:=by
  rw[List.map_cons,List.map_cons,Bi,Bi]
  rfl
 rw[e0]
 have ipl:∀l:List Pr,l.length≤1000→(idsP l).length≤1000000:=fun l h=>by
  unfold idsP
  rw[List.length_map]
  omega
 have i0a:=ipl _ fwa.ps
 have i0b:=ipl _ fwb.ps
 have pca:=fwa.ps
 have pcb:=fwb.ps
 refine Bf (n:=41) func72 rfl ntmps72 [.x (.g (mgA a)),.x (.g (mgA b))] (by simp) (.x (.a (.v (.bool R)))) (fun _=>rfl) ?_
 simp (maxSteps:=10^6) only[↓List.forall_mem_cons,↓Ag,↓A8,↓Be,push_cast,↓reduceIte,reduceCtorEq,Nat.reduceEqDiff,Nat.reduceLT,Nat.reduceAdd]
 (repeat (refine And.intro (by first|omega|decide) ?_))
 refine B3 [(0,true),(1,true),(3,true),(4,true),(2,false),(5,false),(6,false),(7,true),(8,true)] (by kernel_rfl) (by kernel_rfl) rfl (by kernel_rfl) ?_
 simp (maxSteps:=10^6) only[ga,gb,fa40,fb40,pa,pb,undef,push_cast,↓reduceIte,reduceCtorEq,Nat.reduceEqDiff,Nat.reduceLT,Nat.reduceAdd]
 (repeat (refine And.intro (by first|omega|decide) ?_))
 refine Nw rfl Vl rfl (Adl (l:=a.ps.l) pca (Jp ha.ps.rd ha.ps.len) (by simp (maxSteps:=10^6) only[↓List.forall_mem_cons,↓Ag,push_cast,Nat.reduceAdd])) (Aa rfl) (by simp (maxSteps:=10^6) only[↓List.forall_mem_cons,↓Ag,↓A8,push_cast,Nat.reduceLT,Nat.reduceAdd]) ?_
 simp (maxSteps:=10^6) only[push_cast,↓reduceIte,Nat.reduceAdd]
 (repeat (refine And.intro (by first|omega|decide) ?_))
 refine Nw rfl Vl rfl (Adl (l:=b.ps.l) pcb (Jp hb.ps.rd hb.ps.len) (by simp (maxSteps:=10^6) only[↓List.forall_mem_cons,↓Ag,push_cast,Nat.reduceAdd])) (Aa rfl) (by simp (maxSteps:=10^6) only[↓List.forall_mem_cons,↓Ag,↓A8,push_cast,Nat.reduceLT,Nat.reduceAdd]) ?_
 simp (maxSteps:=10^6) only[push_cast,↓reduceIte,Nat.reduceAdd]
 (repeat (refine And.intro (by first|omega|decide) ?_))
 refine Nw rfl Ny rfl (Oh (a:=idsP a.ps.l) (b:=idsP b.ps.l) i0a i0b (Ri (hr:=rfl) (hv:=fun _=>rfl)) (Ri (hr:=rfl) (hv:=fun _=>rfl)) (by simp (maxSteps:=10^6) only[↓List.forall_mem_cons,↓Ag,push_cast,Nat.reduceAdd])) (Aa rfl) (by simp (maxSteps:=10^6) only[↓List.forall_mem_cons,↓Ag,↓A8,push_cast,Nat.reduceLT,Nat.reduceAdd]) ?_
 by_cases g0:By (idsP a.ps.l) (idsP b.ps.l)=[]
 rotate_left
 ·have g0e:(By (idsP a.ps.l) (idsP b.ps.l)).isEmpty=false:=by rw[←Bool.not_eq_true,List.isEmpty_iff];exact g0
  rw[g0e,Bool.not_false,Bool.true_or] at hR
  have g0:(0:Int) < (By (idsP a.ps.l) (idsP b.ps.l)).length:=by
   have:=List.length_pos_iff.2 g0
   omega
  simp (maxSteps:=10^6) only[g0,hR,push_cast,↓reduceIte,Nat.reduceLT,Nat.reduceAdd]
 rw[g0,List.isEmpty_nil,Bool.not_true,Bool.false_or] at hR
 rw[g0]
 simp (maxSteps:=10^6) only[push_cast,↓Int.cast_ofNat_Int,Int.cast_ofNat_Int,↓reduceIte,Nat.reduceLT,Nat.reduceAdd,Int.reduceLT]
 refine Bj (ι:=Nat) (fun i=>⟨[(2,.x (.a (.p 0 0))),(3,.x (.a (.p 1 0))),(5,.x (.a (.v (.int .i64 i))))],[.blk 48 (.c (mgA a)),.blk 48 (.c (mgA b))]⟩)
  (fun i=>i≤a.ns.l.length+1∧R=(evN (a.ns.l.drop i)).any fun x=>(evN b.ns.l).any fun y=>decide (x=y)) (fun i=>a.ns.l.length+1 - i) 0 [0,1] ⟨Nat.zero_le _,hR⟩ ?_ ?_
 ·simp (maxSteps:=10^6) only[↓List.forall_mem_cons,↓Ag,↓Ay,push_cast,↓Int.cast_ofNat_Int,Int.cast_ofNat_Int,↓reduceIte,reduceCtorEq,Nat.reduceEqDiff,Nat.reduceLT,Nat.reduceAdd]
 rintro i ⟨i1,i2⟩
 by_cases hlt:(i:Int) < a.ns.l.length
 ·have il:i < a.ns.l.length:=by omega
  have i0:(0:Int)≤i:=by omega
  have N:=FM.of ha.ns.rd
  have N0:=N.cell i il
  have O0:=N.ok i il
  have hA:=N.some_ (by omega)
  rw[Adq il,List.any_cons] at i2
  generalize ix a.ns.l i=x at*
  simp (maxSteps:=10^6) only[hlt,ga,fa39,va,undef,push_cast,↓reduceIte,reduceCtorEq,Nat.reduceEqDiff,Nat.reduceLT,Nat.reduceAdd]
  refine Bj (ι:=Nat) (fun j=>⟨[(2,.x (.a (.p 0 0))),(3,.x (.a (.p 1 0))),(5,.x (.a (.v (.int .i64 i)))),(6,.x (.a (.v (.int .i64 j))))],[.blk 48 (.c (mgA a)),.blk 48 (.c (mgA b))]⟩)
   (fun j=>j≤b.ns.l.length+1∧R=(((evN (b.ns.l.drop j)).any fun y=>decide (x=y))||(evN (a.ns.l.drop (i+2))).any fun x=>(evN b.ns.l).any fun y=>decide (x=y))) (fun j=>b.ns.l.length+1 - j) 0 [0,1] ⟨Nat.zero_le _,i2⟩ ?_ ?_
  ·simp (maxSteps:=10^6) only[↓List.forall_mem_cons,↓Ag,↓Ay,push_cast,↓Int.cast_ofNat_Int,Int.cast_ofNat_Int,↓reduceIte,reduceCtorEq,Nat.reduceEqDiff,Nat.reduceLT,Nat.reduceAdd]
  rintro j ⟨j1,j2⟩
  by_cases hjt:(j:Int) < b.ns.l.length
  ·have jl:j < b.ns.l.length:=by omega
   have j0:(0:Int)≤j:=by omega
   have M:=FM.of hb.ns.rd
   have M0:=M.cell j jl
   have P0:=M.ok j jl
   have hB:=M.some_ (by omega)
   rw[Adq jl,List.any_cons] at j2
   generalize ix b.ns.l j=y at*
   simp (maxSteps:=10^6) only[hjt,gb,fb39,vb,undef,push_cast,↓reduceIte,reduceCtorEq,Nat.reduceEqDiff,Nat.reduceLT,Nat.reduceAdd]
   refine B3 [(0,true),(1,true),(2,true),(3,true),(4,true),(5,true),(6,true),(7,true),(8,true),(9,true),(10,true)] (by kernel_rfl) (by kernel_rfl) rfl (by kernel_rfl) ?_
   by_cases g1:x=y
   ·rw[decide_eq_true g1,Bool.true_or,Bool.true_or] at j2
    have g1:=eq_true g1
    simp (maxSteps:=10^6) only[hlt,hjt,i0,j0,N0,O0,M0,P0,hA,hB,g1,j2,ga,gb,fa39,fb39,va,vb,undef,push_cast,↓Int.toNat_natCast,↓reduceIte,reduceCtorEq,Nat.reduceEqDiff,Nat.reduceLT,Nat.reduceAdd]
   ·rw[decide_eq_false g1,Bool.false_or] at j2
    have r2a:-9223372036854775808≤(j:Int)+2:=by omega
    have r2b:(j:Int)+2≤9223372036854775807:=by omega
    simp (maxSteps:=10^6) only[hlt,hjt,i0,j0,N0,O0,M0,P0,hA,hB,g1,r2a,r2b,ga,gb,fa39,fb39,va,vb,undef,push_cast,↓Int.toNat_natCast,↓reduceIte,reduceCtorEq,Nat.reduceEqDiff,Nat.reduceLT,Nat.reduceAdd,Int.reduceNeg]
    refine Ba (j+2) [0,1] ⟨by omega,j2⟩ (by omega) ?_
    simp (maxSteps:=10^6) only[↓List.forall_mem_cons,↓Ag,↓Ay,push_cast,↓reduceIte,reduceCtorEq,Nat.reduceEqDiff,Nat.reduceLT,Nat.reduceAdd]
    omega
  ·have e:b.ns.l.drop j=[]:=List.drop_eq_nil_of_le (by omega)
   have en:evN ([]:List UInt64)=[]:=by unfold evN;rfl
   rw[e,en,List.any_nil,Bool.false_or] at j2
   have r2a:-9223372036854775808≤(i:Int)+2:=by omega
   have r2b:(i:Int)+2≤9223372036854775807:=by omega
   simp (maxSteps:=10^6) only[hjt,r2a,r2b,gb,fb39,vb,undef,push_cast,↓reduceIte,reduceCtorEq,Nat.reduceEqDiff,Nat.reduceLT,Nat.reduceAdd,Int.reduceNeg]
   refine Ba (i+2) [0,1] ⟨by omega,j2⟩ (by omega) ?_
   simp (maxSteps:=10^6) only[↓List.forall_mem_cons,↓Ag,↓Ay,push_cast,↓reduceIte,reduceCtorEq,Nat.reduceEqDiff,Nat.reduceLT,Nat.reduceAdd]
   omega
 ·have e:a.ns.l.drop i=[]:=List.drop_eq_nil_of_le (by omega)
  have en:evN ([]:List UInt64)=[]:=by unfold evN;rfl
  rw[e,en,List.any_nil] at i2
  simp (maxSteps:=10^6) only[hlt,i2,ga,fa39,va,undef,push_cast,↓reduceIte,reduceCtorEq,Nat.reduceEqDiff,Nat.reduceLT,Nat.reduceAdd]
end
section
attribute [local irreducible] Ac Ad Ah Au Ao Aj Ai Al
def A2o (w:World) (F:MgS) (e:Ending) (w':World):Prop:=∃(x:MgR×List Fct) (γ1:List Nm),(x.1.mg=F∧MOk x.2 x.1)∧e=.returned (.agg (mgV x.1).toArray)∧Sat w No γ1 [.abs (fctRep x.2)] w'
def Mu:At:=.v (.slice none 0 0)
end
section
attribute [local irreducible] Ac Ad Ah Au Ao Aj Ai Al
def A2p (l:List Int) (x:Int):Int:=if x∈l then (Aca l x:Int) else -1
def A2q (r:LfR) (ids:List Int) (w:World):Prop:=∀f∈ids,∃x,Az r.boxes f=some x∧x.l.length=2*r.joined.l.length∧x.l.length≤x.c∧RdV w w.heap.size x.A (x.l.map vU64)
end
section
theorem Sat.ownFs {w0 w:World} {ow:Nat→Prop} {γ:List Nm} {hp:List Res} {j k:Nat} {e:TypeId} {c:Cont} {vs:List Value} {l:List Fct} (hS:Sat w0 ow γ hp w) (hj:hp[j]?=some (.own e c)) (hk:hp[k]?=some (.abs (fctRep l))) (hjk:j≠k) (hv:∀γ,c.vals γ=vs):
  ∃A cap γ',nmS γ j=.slice A vs.length cap∧vs.length≤cap∧nmB γ'=nmB γ∧nmS γ'=nmS γ∧Sat w0 ow γ' (((hp.map (Res.sub j (.slice A vs.length cap))).set j .gone).set k (.abs (fctRep (l++[⟨.slice A vs.length cap,vs.length,vs⟩])))) w:=by
 obtain⟨A,cap,h1,h2,_,h3⟩:=N8 hS hj hv
 have hT:=hS.sub h1
 obtain⟨γ',eB,eS,h4⟩:=hT.absorbs (l:=l) (fs:=[⟨.slice A vs.length cap,vs.length,vs⟩]) (X:=fun b=>(nmS γ j).ownBlock=some b) (r:=.own e (c.sub j (.slice A vs.length cap))) (by rw[List.getElem?_map,hj];rfl) (by rw[List.getElem?_map,hk];rfl) hjk (fun b hb=>hb) fun f hf=>by rw[List.mem_singleton.1 hf];exact h3
 exact⟨A,cap,γ',h1,h2,eB,eS,h4⟩
theorem Sat.onnFs {w0 w:World} {ow:Nat→Prop} {γ:List Nm} {hp:List Res} {j k m:Nat} {e:TypeId} {c:Cont} {vs:List Value} {l:List Fct} {n:Nat} (hS:Sat w0 ow γ hp w) (hj:hp[j]?=some (.onn e m c)) (hk:hp[k]?=some (.abs (fctRep l))) (hjk:j≠k) (hv:c.vals γ=vs) (hn:vs.length=n*m):
  ∃A cap γ',nmS γ j=.slice A n cap∧n≤cap∧nmB γ'=nmB γ∧nmS γ'=nmS γ∧Sat w0 ow γ' (((hp.map (Res.sub j (.slice A n cap))).set j .gone).set k (.abs (fctRep (l++[⟨.slice A n cap,n,vs⟩])))) w:=by
 obtain⟨A,cap,h1,h2,h3⟩:=Mr hS hj hv hn
 have hT:=hS.sub h1
 obtain⟨γ',eB,eS,h4⟩:=hT.absorbs (l:=l) (fs:=[⟨.slice A n cap,n,vs⟩]) (X:=fun b=>(nmS γ j).ownBlock=some b) (r:=.onn e m (c.sub j (.slice A n cap))) (by rw[List.getElem?_map,hj];rfl) (by rw[List.getElem?_map,hk];rfl) hjk (fun b hb=>hb) fun f hf=>by rw[List.mem_singleton.1 hf];exact h3
 exact⟨A,cap,γ',h1,h2,eB,eS,h4⟩
attribute [local irreducible] Ac Ad Ah Au Ao Aj Ai Al
def A2r (g:Nat) (r:LfR) (l:List Int) (A:Option Addr) (cap:Nat):List Res:=
 [.pin g 104 (.c (lfA {r with waits:=⟨A,cap,l⟩})),.blk 170 (.c [.o 6,.v (.slice none 0 0),.v (.slice none 0 0),.v (.int .i64 r.need),.v (.int .i64 r.term),.v (.int .i64 0)]),.mp .i64 (puE r.pub),bxR r,.mp .i64 (slE r.rows),.abs (fctRep [⟨.slice A l.length cap,l.length,l.map (Value.int .i64)⟩]),.own 3 (.i64 l)]
def A2s (r:LfR) (l:List Int) (A1:Option Addr) (cap1:Nat) (A2:Option Addr) (cap2:Nat):LfR:={r with waits:=⟨A1,cap1,l⟩,ty:=⟨⟨A2,cap2,l⟩,⟨none,0,[]⟩,⟨none,0,[]⟩,r.need,r.term,0⟩}
def A2t (l:List Int) (A1:Option Addr) (cap1:Nat) (A2:Option Addr) (cap2:Nat):List Fct:=[⟨.slice A1 l.length cap1,l.length,l.map (Value.int .i64)⟩,⟨.slice A2 l.length cap2,l.length,l.map (Value.int .i64)⟩]
end
section
structure MgF (m:MgR) (w:World) (B:Nat→Prop):Prop where
 few:m.mg.Few
 ids:m.ids.l.length≤m.ids.c∧FW w B m.ids.A (m.ids.l.map (Value.int .i64))
 ns:m.ns.l.length≤m.ns.c∧FW w B m.ns.A (m.ns.l.map vU64)
 ps:m.ps.l.length≤m.ps.c∧FW w B m.ps.A (pvs m.ps.l)
 xs:m.xs.l.length≤m.xs.c∧FW w B m.xs.A (m.xs.l.map Ap)
attribute [local irreducible] Ac Ad Ah Au Ao Aj Ai Al
attribute [local irreducible] A9 okV Ak erV Tal.can Tal.st
theorem Eo (r:TalR) (n:Nat):(∀x∈tlA r,x.bnd n)=True:=eq_true (by unfold tlA;simp only[push_cast])
theorem Ae (r:TalR) (n:Nat):Cont.bnd n (.c (tlA r))=True:=Eo r n
theorem Aw (r:TalR) (ρ:List Nat):Cont.ren ρ (.c (tlA r))=.c (tlA r):=rfl
theorem Adr (r:TalR) (a:Nat):Cont.av a (.c (tlA r))=True:=eq_true (by unfold tlA Cont.av;simp only[push_cast])
theorem k15:((1:UInt8)=5)=False:=by decide
def A2u (g:Nat) (r:LfR) (m:MgR) (x:TalR×List Fct×Bool):List Res:=if x.2.2=true then [.pin g 104 (.c (lfA r)),.blk 170 (.c (tlA x.1)),.mp .i64 (C3 (puE r.pub) m.cl (.a (.v (vU64 m.nu)))),bxR r,.mp .i64 (slE r.rows),.abs (fctRep x.2.1)] else lfB g {r with ty:=x.1}++[.abs (fctRep x.2.1)]
def A2v (g:Nat) (r:LfR) (m:MgR) (x:TalR×List Fct×Bool):List Res:=if x.2.2=true then [.pin g 104 (.c (lfA r)),.blk 170 (.c (tlA x.1)),.mp .i64 (puE r.pub),.mp .i64 (C3 (slE r.boxes) m.cl (.a (.o 6))),.mp .i64 (slE r.rows),.abs (fctRep x.2.1),.own 41 (.u64 m.ns.l)] else lfB g {r with ty:=x.1}++[.abs (fctRep x.2.1)]
def A2w (g:Nat) (r:LfR) (m:MgR) (x:TalR×List Fct×Bool):List Res:=if x.2.2=true then [.pin g 104 (.c (lfA r)),.blk 170 (.c (tlA x.1)),.mp .i64 (puE r.pub),bxR r,.mp .i64 (C3 (slE r.rows) m.cl (.a (.o 6))),.abs (fctRep x.2.1),.own 111 (.u32 m.xs.l)] else lfB g {r with ty:=x.1}++[.abs (fctRep x.2.1)]
end
section
attribute [local irreducible] Ac Ad Ah Au Ao Aj Ai Al
attribute [local irreducible] A9 okV Ak erV Tal.can Tal.st
theorem Ld (r:TalR) (j:Nat) (v:Value):(tlA r).map (At.sub j v)=tlA r:=rfl
def A2x (r:LfR) (m:MgR) (Fs:List Fct) (x:LfR×List Fct):Prop:=x.1.s=(if r.s.cameE m.mg=0 then r.s.cameS m.mg else r.s)∧x.1.live=r.live∧LfOk (Fs++x.2) x.1
end
section
attribute [local irreducible] Ac Ad Ah Au Ao Aj Ai Al
attribute [local irreducible] A9 okV Ak erV Tal.can Tal.st
def Av0 (Fs:List Fct) (s:LfS) (out:List SnS) (x:LfR×SlV SnR×List Fct):Prop:=x.1.s=s∧x.2.1.l.map SnR.s=out∧(x.1.phase < 2→x.1.live=true)∧LfOk (Fs++x.2.2) x.1∧OutOk x.2.2 x.2.1
end
section
section
variable {P:Program} {w0:World} {ow:Nat→Prop} {n:Nat}
end
attribute [local irreducible] Ac Ad Ah Au Ao Aj Ai Al
attribute [local irreducible] A9 okV Ak erV Tal.can Tal.st
end
end Go.Proofs.YtedaafmfjhjfmaaGreatDoor
