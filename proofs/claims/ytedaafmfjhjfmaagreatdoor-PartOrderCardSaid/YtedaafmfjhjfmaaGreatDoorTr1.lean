import Derived.Test.YtedaafmfjhjfmaaGreatDoorCf5
/- Layer 22: tree.Node, Of, check, above, Above. -/
namespace Go.Proofs.YtedaafmfjhjfmaaGreatDoor
open Go.RowKit
set_option linter.unusedSimpArgs false
set_option linter.unusedVariables false
def eV (n:Int):Value:=.iface 91 (.int .i64 n)
def tcF (c:CfS) (p:Int):Value:=if cfF c=true then (if 0≤p∧p < c.places.length then .nilIface else eV 2) else eV 1
def isP (c:CfS) (p:Int):Bool:=cfF c&&decide (0≤p∧p < c.places.length)
theorem Qf {c:CfS} {p:Int} (h:cfF c=true) (h1:0≤p) (h2:p < c.places.length):tcF c p=.nilIface∧isP c p=true:=by
 unfold tcF isP
 rw[h,if_pos rfl,if_pos ⟨h1,h2⟩,decide_eq_true ⟨h1,h2⟩]
 exact⟨rfl,rfl⟩
theorem Uh {c:CfS} {p:Int} (h:cfF c=true) (h1:¬(0≤p∧p < c.places.length)):tcF c p=eV 2∧isP c p=false:=by
 unfold tcF isP
 rw[h,if_pos rfl,if_neg h1,decide_eq_false h1]
 exact⟨rfl,rfl⟩
theorem Z8 {c:CfS} {p:Int} (h:cfF c=false):tcF c p=eV 1∧isP c p=false:=by
 unfold tcF isP
 rw[h,if_neg (by decide)]
 exact⟨rfl,rfl⟩
theorem Ui (n:Int):eV n=.iface 91 (.int .i64 n):=rfl
attribute [local irreducible] Ad Ae Ah Ar Ak Am Ai Al
attribute [local irreducible] cfF okV tcF isP
section
set_option maxRecDepth 100000 in
theorem Az5 (c:CfR) (p:Int) (w:World) (hc:c.Ok w):Calls Tryz.prog 108 #[.agg (cfV c).toArray,.int .i64 p] w fun e w'=>e=.returned (tcF c.cf p)∧Below w.heap.size w w':=by
 refine Ba (n:=21) Tryz.func108 rfl Tryz.ntmps108 [.x (.g [.v (.int .i64 c.dim),.v (.slice c.ps.A c.ps.l.length c.ps.c),.v (.slice c.gs.A c.gs.l.length c.gs.c),.v (.int .i64 c.least),.v (.int .i64 c.term)]),.x (.a (.v (.int .i64 p)))] (by simp) (.x (.a (.v (tcF c.cf p)))) (fun _=>rfl) ?_
 have hT:=Hl 1
 have hF:=Hm 1
 simp (maxSteps:=10^6) only[push_cast,↓reduceIte,Nat.reduceEqDiff,Nat.reduceLT,Nat.reduceAdd]
 (repeat (refine And.intro (by first|omega|decide) ?_))
 refine Aq rfl Tk rfl (Az1 c hc) (Af rfl) ?_
 cases hk:cfF c.cf with
 |false=>
  have hq:=(Z8 (p:=p) hk).1
  simp (maxSteps:=10^6) only[hF,hq,Ui,push_cast,↓reduceIte,Nat.reduceEqDiff,Nat.reduceLT]
  done
 |true=>
  by_cases h1:p < 0
  ·have hq:=(Uh (p:=p) hk (by omega)).1
   simp (maxSteps:=10^6) only[hT,h1,hq,Ui,undef,push_cast,↓reduceIte,reduceCtorEq,Nat.reduceEqDiff,Nat.reduceLT]
   done
  by_cases h2:(c.ps.l.length:Int)≤p
  ·have hq:=(Uh (c:=c.cf) (p:=p) hk (by show ¬(0≤p∧p < (c.ps.l.length:Int));omega)).1
   simp (maxSteps:=10^6) only[hT,h1,h2,hq,Ui,undef,push_cast,↓reduceIte,reduceCtorEq,Nat.reduceEqDiff,Nat.reduceLT,Nat.reduceAdd]
   done
  ·have hq:=(Qf (c:=c.cf) (p:=p) hk (by omega) (by show p < (c.ps.l.length:Int);omega)).1
   simp (maxSteps:=10^6) only[hT,h1,h2,hq,undef,push_cast,↓reduceIte,reduceCtorEq,Nat.reduceEqDiff,Nat.reduceLT,Nat.reduceAdd]
   done
theorem Z9 {w0:World} {hp:List Res} (c:CfR) (p:Int) (hc:c.Ok w0):Ae Tryz.prog w0 No 108 [.x (.g [.v (.int .i64 c.dim),.v (.slice c.ps.A c.ps.l.length c.ps.c),.v (.slice c.gs.A c.gs.l.length c.gs.c),.v (.int .i64 c.least),.v (.int .i64 c.term)]),.x (.a (.v (.int .i64 p)))] hp (.x (.a (.v (tcF c.cf p)))) hp:=A8 fun γ w hS=>Az5 c p w (hc.later hS)
def upF (l:List PlS) (q:Int):List Int:=Dq l l.length q []
theorem Uj {l:List PlS} {q:Int} (h:¬0≤q):upF l q=[]:=by
 unfold upF
 cases hn:l.length with
 |zero=>rfl
 |succ n=>rw[Dq,if_neg h]
theorem Aaa {l:List PlS} (h:StOk l) {q:Nat} (hq:q < l.length):upF l q=(q:Int)::upF l (ix l q).parent:=by
 unfold upF
 obtain⟨n,hn⟩:∃n,l.length=n+1:=⟨l.length - 1,by omega⟩
 have hp:(ix l q).parent < n:=by
  by_cases e:q=0
  ·rw[e,h.root];omega
  ·have:=h.up q (by omega) hq;omega
 have h1:=T5 h n (n+1) (ix l q).parent [] (by omega) hp (by omega)
 rw[hn,h1,Dq,if_pos (by omega),Int.toNat_natCast,T4,List.nil_append,List.singleton_append]
theorem Az6 {l:List PlS} (h:StOk l) {p:Nat} (hp:p < l.length):abF l p=upF l (ix l p).parent:=by
 unfold abF upF
 have hq:(ix l p).parent < (p:Int)∨p=0∧(ix l p).parent=-1:=by
  by_cases e:p=0
  ·exact .inr ⟨e,by rw[e,h.root]⟩
  ·exact .inl (h.up p (by omega) hp).2
 exact (T5 h (p+1) l.length _ [] (by omega) (by omega) (by omega)).symm
theorem Aab {l:List PlS} (h:StOk l):∀(k:Nat) (q:Int),q < k→q < l.length→(upF l q).length≤k
 |0,q,h1,_=>by rw[Uj (by omega)];exact Nat.le_refl _
 |k+1,q,h1,h2=>by
  by_cases hq:0≤q
  ·obtain⟨n,rfl⟩:∃n:Nat,q=n:=⟨q.toNat,by omega⟩
   rw[Aaa h (by omega),List.length_cons]
   have hp:(ix l n).parent < n:=by
    by_cases e:n=0
    ·rw[e,h.root];omega
    ·exact (h.up n (by omega) (by omega)).2
   have:=Aab h k (ix l n).parent (by omega) (by omega)
   omega
  ·rw[Uj hq];exact Nat.zero_le _
attribute [local irreducible] upF abF
set_option maxRecDepth 100000 in
theorem Az7 (c:CfR) (p:Nat) (w:World) (hc:c.Ok w) (hst:StOk c.ps.l) (hp:p < c.ps.l.length):Calls Tryz.prog 111 #[.agg (cfV c).toArray,.int .i64 p] w fun e w'=>∃x,e=.returned x∧Own w' w.heap.size 3 x ((abF c.ps.l p).map (Value.int .i64))∧Below w.heap.size w w':=by
 have F:=FLm.of Jz (by decide) hc.prd
 have hm:=hst.most
 refine He (n:=26) Tryz.func111 rfl Tryz.ntmps111 [.x (.g [.v (.int .i64 c.dim),.v (.slice c.ps.A c.ps.l.length c.ps.c),.v (.slice c.gs.A c.gs.l.length c.gs.c),.v (.int .i64 c.least),.v (.int .i64 c.term)]),.x (.a (.v (.int .i64 p)))] (by simp) 3 (.i64 (abF c.ps.l p)) (fun _=>rfl) ?_
 have p0:(0:Int)≤p:=by omega
 have p1:(p:Int) < c.ps.l.length:=by omega
 have hA:=F.some_ (by omega)
 obtain⟨c0,o0⟩:=F.cell p 0 _ hp rfl
 rw[Nat.add_zero] at c0 o0
 have hab:=Az6 hst hp
 simp (maxSteps:=10^6) only[p0,p1,hA,c0,o0,Cm,Bl,undef,push_cast,↓Int.toNat_natCast,↓reduceIte,reduceCtorEq,Nat.reduceEqDiff,Nat.reduceLT,Nat.reduceAdd]
 (repeat (refine And.intro (by first|omega|decide) ?_))
 refine Pa 5 3 (.i64 []) rfl rfl trivial (by simp (maxSteps:=10^6) only[push_cast,Nat.reduceLT]) ?_
 simp (maxSteps:=10^6) only[push_cast]
 have hpar:(ix c.ps.l p).parent < c.ps.l.length:=by
  by_cases e:p=0
  ·rw[e,hst.root];omega
  ·have:=hst.up p (by omega) hp;omega
 refine Bh (ι:=Int×List Int) (fun x=>⟨[(2,.x (.a (.p 0 0))),(5,.x (.a (.o 1))),(6,.x (.a (.v (.int .i64 x.1))))],[.blk 38 (.c [.v (.int .i64 c.dim),.v (.slice c.ps.A c.ps.l.length c.ps.c),.v (.slice c.gs.A c.gs.l.length c.gs.c),.v (.int .i64 c.least),.v (.int .i64 c.term)]),.own 3 (.i64 x.2)]⟩)
  (fun x=>x.1 < c.ps.l.length∧x.2++upF c.ps.l x.1=abF c.ps.l p) (fun x=>(x.1+1).toNat) ((ix c.ps.l p).parent,[]) [0,1] ⟨hpar,by rw[hab];rfl⟩ ?_ ?_
 ·simp (maxSteps:=10^6) only[push_cast,↓reduceIte,reduceCtorEq,Nat.reduceEqDiff,Nat.reduceLT,Nat.reduceAdd]
 rintro⟨q,acc⟩ ⟨hq,he⟩
 dsimp only at hq he
 by_cases h0:(0:Int)≤q
 ·obtain⟨n,rfl⟩:∃n:Nat,q=n:=⟨q.toNat,by omega⟩
  have hn:n < c.ps.l.length:=by omega
  obtain⟨d0,e0⟩:=F.cell n 0 _ hn rfl
  rw[Nat.add_zero] at d0 e0
  have hl1:acc.length+(upF c.ps.l n).length=(abF c.ps.l p).length:=by rw[←he,List.length_append]
  have hl2:(abF c.ps.l p).length≤c.ps.l.length:=by rw[hab];exact Aab hst _ _ (by omega) hpar
  rw[Aaa hst hn] at he hl1
  rw[List.length_cons] at hl1
  have b1:(acc.length+1)*8≤140737488355328:=by omega
  have b2:acc.length+1≤2 ^ 63 - 1:=by omega
  have hnp:(ix c.ps.l n).parent < n:=by
   by_cases e:n=0
   ·rw[e,hst.root];omega
   ·exact (hst.up n (by omega) hn).2
  simp (maxSteps:=10^6) only[h0,hq,hA,d0,e0,b1,b2,Cm,Bl,undef,push_cast,↓Int.toNat_natCast,↓reduceIte,reduceCtorEq,Nat.reduceEqDiff,Nat.reduceLT,Nat.reduceLeDiff,Nat.reduceAdd]
  (repeat (refine And.intro (by first|omega|decide) ?_))
  refine Be ((ix c.ps.l n).parent,acc++[(n:Int)]) [0,3] ⟨by show (ix c.ps.l n).parent < _;omega,by show (acc++[(n:Int)])++_=_;rw[List.append_assoc,List.singleton_append];exact he⟩ (by show ((ix c.ps.l n).parent+1).toNat < ((n:Int)+1).toNat;omega) ?_
  simp (maxSteps:=10^6) only[push_cast,↓reduceIte,reduceCtorEq,Nat.reduceEqDiff,Nat.reduceLT,Nat.reduceAdd]
  done
 ·rw[Uj h0,List.append_nil] at he
  simp (maxSteps:=10^6) only[h0,he,push_cast,↓reduceIte,Nat.reduceEqDiff,Nat.reduceLT,Nat.reduceAdd]
  done
theorem Az8 {w0:World} {hp:List Res} (c:CfR) (p:Nat) (hc:c.Ok w0) (hst:StOk c.ps.l) (hp':p < c.ps.l.length) (hbr:∀r∈hp,Res.bnd hp.length r):Ae Tryz.prog w0 No 111 [.x (.g [.v (.int .i64 c.dim),.v (.slice c.ps.A c.ps.l.length c.ps.c),.v (.slice c.gs.A c.gs.l.length c.gs.c),.v (.int .i64 c.least),.v (.int .i64 c.term)]),.x (.a (.v (.int .i64 p)))] hp (.x (.a (.o hp.length))) (hp++[.own 3 (.i64 (abF c.ps.l p))]):=Id hbr trivial fun γ w hS=>Az7 c p w (hc.later hS) hst hp'
def ofP (c:CfS) (p:Int) (l:List Int):List Int:=if isP c p=true then l else []
theorem Az9 {c:CfS} {p:Int} (h:isP c p=true):cfF c=true∧0≤p∧p < c.places.length:=by
 unfold isP at h
 rw[Bool.and_eq_true,decide_eq_true_iff] at h
 exact h
theorem Aac (c:CfS) (p:Int):(tcF c p=.nilIface∧isP c p=true)∨(isP c p=false∧∃n:Int,tcF c p=.iface 91 (.int .i64 n)):=by
 by_cases h:cfF c=true
 ·by_cases h1:0≤p∧p < c.places.length
  ·exact .inl (Qf h h1.1 h1.2)
  ·have:=Uh h h1
   exact .inr ⟨this.2,2,this.1⟩
 ·have:=Z8 (p:=p) (Bool.eq_false_iff.2 h)
  exact .inr ⟨this.2,1,this.1⟩
attribute [local irreducible] ofP
set_option maxRecDepth 100000 in
theorem A0a (c:CfR) (p:Int) (w:World) (hc:c.Ok w):Calls Tryz.prog 51 #[.agg (cfV c).toArray,.int .i64 p] w fun e w'=>∃v',e=.returned (.tuple #[v',tcF c.cf p])∧Own w' w.heap.size 3 v' ((ofP c.cf p (abF c.ps.l p.toNat)).map (Value.int .i64))∧Below w.heap.size w w':=by
 refine Tf (n:=16) Tryz.func51 rfl Tryz.ntmps51 [.x (.g [.v (.int .i64 c.dim),.v (.slice c.ps.A c.ps.l.length c.ps.c),.v (.slice c.gs.A c.gs.l.length c.gs.c),.v (.int .i64 c.least),.v (.int .i64 c.term)]),.x (.a (.v (.int .i64 p)))] (by simp) 3 (.i64 (ofP c.cf p (abF c.ps.l p.toNat))) (tcF c.cf p) (fun _=>rfl) ?_
 simp (maxSteps:=10^6) only[push_cast,↓reduceIte,reduceCtorEq,Nat.reduceEqDiff,Nat.reduceLT,Nat.reduceAdd]
 (repeat (refine And.intro (by first|omega|decide) ?_))
 refine Aq rfl Yc rfl (Z9 c p hc) (Af rfl) ?_
 rcases Aac c.cf p with ⟨h1,h2⟩|⟨h2,n,h1⟩
 ·obtain⟨h3,h4,h5⟩:=Az9 h2
  have h5:p < c.ps.l.length:=h5
  have hst:=Za h3
  have ho:ofP c.cf p (abF c.ps.l p.toNat)=abF c.ps.l p.toNat:=by unfold ofP;rw[if_pos h2]
  obtain⟨m,rfl⟩:∃m:Nat,p=m:=⟨p.toNat,by omega⟩
  rw[Int.toNat_natCast] at ho
  simp (maxSteps:=10^6) only[h1,ho,push_cast,↓Int.toNat_natCast,↓reduceIte,reduceCtorEq,Nat.reduceEqDiff,Nat.reduceLT,Nat.reduceAdd]
  (repeat (refine And.intro (by first|omega|decide) ?_))
  refine Fm rfl Awf rfl (Az8 c m hc hst (by omega) (by simp only[push_cast])) (Af rfl) (by simp only[push_cast,Nat.reduceLT]) ?_
  simp (maxSteps:=10^6) only[push_cast,↓reduceIte,Nat.reduceEqDiff,Nat.reduceLT,Nat.reduceAdd]
  done
 ·have ho:ofP c.cf p (abF c.ps.l p.toNat)=[]:=by unfold ofP;rw[h2];rfl
  simp (maxSteps:=10^6) only[h1,ho,push_cast,↓reduceIte,Nat.reduceEqDiff,Nat.reduceLT]
  done
end
end Go.Proofs.YtedaafmfjhjfmaaGreatDoor
