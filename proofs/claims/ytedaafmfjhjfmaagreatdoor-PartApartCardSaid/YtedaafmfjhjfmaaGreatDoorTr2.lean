import Derived.Test.YtedaafmfjhjfmaaGreatDoorCf5
/- Layer 22: tree.Node, Of, check, above, Above. -/
namespace Go.Proofs.YtedaafmfjhjfmaaGreatDoor
open Go.RowKit
set_option linter.unusedSimpArgs false
set_option linter.unusedVariables false
def eV (n:Int):Value:=.iface 91 (.int .i64 n)
def tcF (c:CfS) (p:Int):Value:=if cfF c=true then (if 0≤p∧p < c.places.length then .nilIface else eV 2) else eV 1
def isP (c:CfS) (p:Int):Bool:=cfF c&&decide (0≤p∧p < c.places.length)
theorem My {c:CfS} {p:Int} (h:cfF c=true) (h1:0≤p) (h2:p < c.places.length):tcF c p=.nilIface∧isP c p=true:=by
 unfold tcF isP
 rw[h,if_pos rfl,if_pos ⟨h1,h2⟩,decide_eq_true ⟨h1,h2⟩]
 exact⟨rfl,rfl⟩
theorem Ud {c:CfS} {p:Int} (h:cfF c=true) (h1:¬(0≤p∧p < c.places.length)):tcF c p=eV 2∧isP c p=false:=by
 unfold tcF isP
 rw[h,if_pos rfl,if_neg h1,decide_eq_false h1]
 exact⟨rfl,rfl⟩
theorem Z0 {c:CfS} {p:Int} (h:cfF c=false):tcF c p=eV 1∧isP c p=false:=by
 unfold tcF isP
 rw[h,if_neg (by decide)]
 exact⟨rfl,rfl⟩
theorem Ue (n:Int):eV n=.iface 91 (.int .i64 n):=rfl
attribute [local irreducible] Ad Ae Ah Au Am Ap Ai Ao
attribute [local irreducible] cfF okV tcF isP
section
set_option maxRecDepth 100000 in
theorem A0h (c:CfR) (p:Int) (w:World) (hc:c.Ok w):Calls Tryz.prog 108 #[.agg (cfV c).toArray,.int .i64 p] w fun e w'=>e=.returned (tcF c.cf p)∧Below w.heap.size w w':=by
 refine Bb (n:=21) Tryz.func108 rfl Tryz.ntmps108 [.x (.g [.v (.int .i64 c.dim),.v (.slice c.ps.A c.ps.l.length c.ps.c),.v (.slice c.gs.A c.gs.l.length c.gs.c),.v (.int .i64 c.least),.v (.int .i64 c.term)]),.x (.a (.v (.int .i64 p)))] (by simp) (.x (.a (.v (tcF c.cf p)))) (fun _=>rfl) ?_
 have hT:=Hr 1
 have hF:=Ht 1
 simp (maxSteps:=10^6) only[push_cast,↓reduceIte,Nat.reduceEqDiff,Nat.reduceLT,Nat.reduceAdd]
 (repeat (refine And.intro (by first|omega|decide) ?_))
 refine Ar rfl Tj rfl (A0d c hc) (Af rfl) ?_
 cases hk:cfF c.cf with
 |false=>
  have hq:=(Z0 (p:=p) hk).1
  simp (maxSteps:=10^6) only[hF,hq,Ue,push_cast,↓reduceIte,Nat.reduceEqDiff,Nat.reduceLT]
  done
 |true=>
  by_cases h1:p < 0
  ·have hq:=(Ud (p:=p) hk (by omega)).1
   simp (maxSteps:=10^6) only[hT,h1,hq,Ue,undef,push_cast,↓reduceIte,reduceCtorEq,Nat.reduceEqDiff,Nat.reduceLT]
   done
  by_cases h2:(c.ps.l.length:Int)≤p
  ·have hq:=(Ud (c:=c.cf) (p:=p) hk (by show ¬(0≤p∧p < (c.ps.l.length:Int));omega)).1
   simp (maxSteps:=10^6) only[hT,h1,h2,hq,Ue,undef,push_cast,↓reduceIte,reduceCtorEq,Nat.reduceEqDiff,Nat.reduceLT,Nat.reduceAdd]
   done
  ·have hq:=(My (c:=c.cf) (p:=p) hk (by omega) (by show p < (c.ps.l.length:Int);omega)).1
   simp (maxSteps:=10^6) only[hT,h1,h2,hq,undef,push_cast,↓reduceIte,reduceCtorEq,Nat.reduceEqDiff,Nat.reduceLT,Nat.reduceAdd]
   done
theorem Z1 {w0:World} {hp:List Res} (c:CfR) (p:Int) (hc:c.Ok w0):Ae Tryz.prog w0 No 108 [.x (.g [.v (.int .i64 c.dim),.v (.slice c.ps.A c.ps.l.length c.ps.c),.v (.slice c.gs.A c.gs.l.length c.gs.c),.v (.int .i64 c.least),.v (.int .i64 c.term)]),.x (.a (.v (.int .i64 p)))] hp (.x (.a (.v (tcF c.cf p)))) hp:=Ba fun γ w hS=>A0h c p w (hc.later hS)
def upF (l:List PlS) (q:Int):List Int:=Dd l l.length q []
theorem Mz {l:List PlS} {q:Int} (h:¬0≤q):upF l q=[]:=by
 unfold upF
 cases hn:l.length with
 |zero=>rfl
 |succ n=>rw[Dd,if_neg h]
theorem Z2 {l:List PlS} (h:StOk l) {q:Nat} (hq:q < l.length):upF l q=(q:Int)::upF l (ix l q).parent:=by
 unfold upF
 obtain⟨n,hn⟩:∃n,l.length=n+1:=⟨l.length - 1,by omega⟩
 have hp:(ix l q).parent < n:=by
  by_cases e:q=0
  ·rw[e,h.root];omega
  ·have:=h.up q (by omega) hq;omega
 have h1:=Pt h n (n+1) (ix l q).parent [] (by omega) hp (by omega)
 rw[hn,h1,Dd,if_pos (by omega),Int.toNat_natCast,Ps,List.nil_append,List.singleton_append]
theorem Uf {l:List PlS} (h:StOk l) {p:Nat} (hp:p < l.length):abF l p=upF l (ix l p).parent:=by
 unfold abF upF
 have hq:(ix l p).parent < (p:Int)∨p=0∧(ix l p).parent=-1:=by
  by_cases e:p=0
  ·exact .inr ⟨e,by rw[e,h.root]⟩
  ·exact .inl (h.up p (by omega) hp).2
 exact (Pt h (p+1) l.length _ [] (by omega) (by omega) (by omega)).symm
theorem Qi {l:List PlS} (h:StOk l):∀(k:Nat) (q:Int),q < k→q < l.length→(upF l q).length≤k
 |0,q,h1,_=>by rw[Mz (by omega)];exact Nat.le_refl _
 |k+1,q,h1,h2=>by
  by_cases hq:0≤q
  ·obtain⟨n,rfl⟩:∃n:Nat,q=n:=⟨q.toNat,by omega⟩
   rw[Z2 h (by omega),List.length_cons]
   have hp:(ix l n).parent < n:=by
    by_cases e:n=0
    ·rw[e,h.root];omega
    ·exact (h.up n (by omega) (by omega)).2
   have:=Qi h k (ix l n).parent (by omega) (by omega)
   omega
  ·rw[Mz hq];exact Nat.zero_le _
attribute [local irreducible] upF abF
set_option maxRecDepth 100000 in
theorem A0i (c:CfR) (p:Nat) (w:World) (hc:c.Ok w) (hst:StOk c.ps.l) (hp:p < c.ps.l.length):Calls Tryz.prog 111 #[.agg (cfV c).toArray,.int .i64 p] w fun e w'=>∃x,e=.returned x∧Own w' w.heap.size 3 x ((abF c.ps.l p).map (Value.int .i64))∧Below w.heap.size w w':=by
 have F:=FLm.of Iv (by decide) hc.prd
 have hm:=hst.most
 refine Fu (n:=26) Tryz.func111 rfl Tryz.ntmps111 [.x (.g [.v (.int .i64 c.dim),.v (.slice c.ps.A c.ps.l.length c.ps.c),.v (.slice c.gs.A c.gs.l.length c.gs.c),.v (.int .i64 c.least),.v (.int .i64 c.term)]),.x (.a (.v (.int .i64 p)))] (by simp) 3 (.i64 (abF c.ps.l p)) (fun _=>rfl) ?_
 have p0:(0:Int)≤p:=by omega
 have p1:(p:Int) < c.ps.l.length:=by omega
 have hA:=F.some_ (by omega)
 obtain⟨c0,o0⟩:=F.cell p 0 _ hp rfl
 rw[Nat.add_zero] at c0 o0
 have hab:=Uf hst hp
 simp (maxSteps:=10^6) only[p0,p1,hA,c0,o0,Cb,Bf,undef,push_cast,↓Int.toNat_natCast,↓reduceIte,reduceCtorEq,Nat.reduceEqDiff,Nat.reduceLT,Nat.reduceAdd]
 (repeat (refine And.intro (by first|omega|decide) ?_))
 refine Ij 5 3 (.i64 []) rfl rfl trivial (by simp (maxSteps:=10^6) only[push_cast,Nat.reduceLT]) ?_
 simp (maxSteps:=10^6) only[push_cast]
 have hpar:(ix c.ps.l p).parent < c.ps.l.length:=by
  by_cases e:p=0
  ·rw[e,hst.root];omega
  ·have:=hst.up p (by omega) hp;omega
 refine Bc (ι:=Int×List Int) (fun x=>⟨[(2,.x (.a (.p 0 0))),(5,.x (.a (.o 1))),(6,.x (.a (.v (.int .i64 x.1))))],[.blk 38 (.c [.v (.int .i64 c.dim),.v (.slice c.ps.A c.ps.l.length c.ps.c),.v (.slice c.gs.A c.gs.l.length c.gs.c),.v (.int .i64 c.least),.v (.int .i64 c.term)]),.own 3 (.i64 x.2)]⟩)
  (fun x=>x.1 < c.ps.l.length∧x.2++upF c.ps.l x.1=abF c.ps.l p) (fun x=>(x.1+1).toNat) ((ix c.ps.l p).parent,[]) [0,1] ⟨hpar,by rw[hab];rfl⟩ ?_ ?_
 ·simp (maxSteps:=10^6) only[push_cast,↓reduceIte,reduceCtorEq,Nat.reduceEqDiff,Nat.reduceLT,Nat.reduceAdd]
 rintro⟨q,acc⟩ ⟨hq,he⟩
 dsimp only at hq he
 by_cases h0:(0:Int)≤q
 ·obtain⟨n,rfl⟩:∃n:Nat,q=n:=⟨q.toNat,by omega⟩
  have hn:n < c.ps.l.length:=by omega
  obtain⟨d0,e0⟩:=F.cell n 0 _ hn rfl
  rw[Nat.add_zero] at d0 e0
  have hl1:acc.length+(upF c.ps.l n).length=(abF c.ps.l p).length:=by rw[←he,List.length_append]
  have hl2:(abF c.ps.l p).length≤c.ps.l.length:=by rw[hab];exact Qi hst _ _ (by omega) hpar
  rw[Z2 hst hn] at he hl1
  rw[List.length_cons] at hl1
  have b1:(acc.length+1)*8≤140737488355328:=by omega
  have b2:acc.length+1≤2 ^ 63 - 1:=by omega
  have hnp:(ix c.ps.l n).parent < n:=by
   by_cases e:n=0
   ·rw[e,hst.root];omega
   ·exact (hst.up n (by omega) hn).2
  simp (maxSteps:=10^6) only[h0,hq,hA,d0,e0,b1,b2,Cb,Bf,undef,push_cast,↓Int.toNat_natCast,↓reduceIte,reduceCtorEq,Nat.reduceEqDiff,Nat.reduceLT,Nat.reduceLeDiff,Nat.reduceAdd]
  (repeat (refine And.intro (by first|omega|decide) ?_))
  refine Ay ((ix c.ps.l n).parent,acc++[(n:Int)]) [0,3] ⟨by show (ix c.ps.l n).parent < _;omega,by show (acc++[(n:Int)])++_=_;rw[List.append_assoc,List.singleton_append];exact he⟩ (by show ((ix c.ps.l n).parent+1).toNat < ((n:Int)+1).toNat;omega) ?_
  simp (maxSteps:=10^6) only[push_cast,↓reduceIte,reduceCtorEq,Nat.reduceEqDiff,Nat.reduceLT,Nat.reduceAdd]
  done
 ·rw[Mz h0,List.append_nil] at he
  simp (maxSteps:=10^6) only[h0,he,push_cast,↓reduceIte,Nat.reduceEqDiff,Nat.reduceLT,Nat.reduceAdd]
  done
theorem A0j {w0:World} {hp:List Res} (c:CfR) (p:Nat) (hc:c.Ok w0) (hst:StOk c.ps.l) (hp':p < c.ps.l.length) (hbr:∀r∈hp,Res.bnd hp.length r):Ae Tryz.prog w0 No 111 [.x (.g [.v (.int .i64 c.dim),.v (.slice c.ps.A c.ps.l.length c.ps.c),.v (.slice c.gs.A c.gs.l.length c.gs.c),.v (.int .i64 c.least),.v (.int .i64 c.term)]),.x (.a (.v (.int .i64 p)))] hp (.x (.a (.o hp.length))) (hp++[.own 3 (.i64 (abF c.ps.l p))]):=Ga hbr trivial fun γ w hS=>A0i c p w (hc.later hS) hst hp'
def ofP (c:CfS) (p:Int) (l:List Int):List Int:=if isP c p=true then l else []
theorem A0k {c:CfS} {p:Int} (h:isP c p=true):cfF c=true∧0≤p∧p < c.places.length:=by
 unfold isP at h
 rw[Bool.and_eq_true,decide_eq_true_iff] at h
 exact h
theorem Z3 (c:CfS) (p:Int):(tcF c p=.nilIface∧isP c p=true)∨(isP c p=false∧∃n:Int,tcF c p=.iface 91 (.int .i64 n)):=by
 by_cases h:cfF c=true
 ·by_cases h1:0≤p∧p < c.places.length
  ·exact .inl (My h h1.1 h1.2)
  ·have:=Ud h h1
   exact .inr ⟨this.2,2,this.1⟩
 ·have:=Z0 (p:=p) (Bool.eq_false_iff.2 h)
  exact .inr ⟨this.2,1,this.1⟩
attribute [local irreducible] ofP
set_option maxRecDepth 100000 in
theorem A0l (c:CfR) (p:Int) (w:World) (hc:c.Ok w):Calls Tryz.prog 51 #[.agg (cfV c).toArray,.int .i64 p] w fun e w'=>∃v',e=.returned (.tuple #[v',tcF c.cf p])∧Own w' w.heap.size 3 v' ((ofP c.cf p (abF c.ps.l p.toNat)).map (Value.int .i64))∧Below w.heap.size w w':=by
 refine Ma (n:=16) Tryz.func51 rfl Tryz.ntmps51 [.x (.g [.v (.int .i64 c.dim),.v (.slice c.ps.A c.ps.l.length c.ps.c),.v (.slice c.gs.A c.gs.l.length c.gs.c),.v (.int .i64 c.least),.v (.int .i64 c.term)]),.x (.a (.v (.int .i64 p)))] (by simp) 3 (.i64 (ofP c.cf p (abF c.ps.l p.toNat))) (tcF c.cf p) (fun _=>rfl) ?_
 simp (maxSteps:=10^6) only[push_cast,↓reduceIte,reduceCtorEq,Nat.reduceEqDiff,Nat.reduceLT,Nat.reduceAdd]
 (repeat (refine And.intro (by first|omega|decide) ?_))
 refine Ar rfl X0 rfl (Z1 c p hc) (Af rfl) ?_
 rcases Z3 c.cf p with ⟨h1,h2⟩|⟨h2,n,h1⟩
 ·obtain⟨h3,h4,h5⟩:=A0k h2
  have h5:p < c.ps.l.length:=h5
  have hst:=T2 h3
  have ho:ofP c.cf p (abF c.ps.l p.toNat)=abF c.ps.l p.toNat:=by unfold ofP;rw[if_pos h2]
  obtain⟨m,rfl⟩:∃m:Nat,p=m:=⟨p.toNat,by omega⟩
  rw[Int.toNat_natCast] at ho
  simp (maxSteps:=10^6) only[h1,ho,push_cast,↓Int.toNat_natCast,↓reduceIte,reduceCtorEq,Nat.reduceEqDiff,Nat.reduceLT,Nat.reduceAdd]
  (repeat (refine And.intro (by first|omega|decide) ?_))
  refine Dx rfl Awo rfl (A0j c m hc hst (by omega) (by simp only[push_cast])) (Af rfl) (by simp only[push_cast,Nat.reduceLT]) ?_
  simp (maxSteps:=10^6) only[push_cast,↓reduceIte,Nat.reduceEqDiff,Nat.reduceLT,Nat.reduceAdd]
  done
 ·have ho:ofP c.cf p (abF c.ps.l p.toNat)=[]:=by unfold ofP;rw[h2];rfl
  simp (maxSteps:=10^6) only[h1,ho,push_cast,↓reduceIte,Nat.reduceEqDiff,Nat.reduceLT]
  done
end
end Go.Proofs.YtedaafmfjhjfmaaGreatDoor
/- slices.Index, Contains of numbers; layer 22: tree.Under, Group, Below, Nodes. -/
namespace Go.Proofs.YtedaafmfjhjfmaaGreatDoor
open Go.RowKit
set_option linter.unusedSimpArgs false
set_option linter.unusedVariables false
def Df (n:Int):List Int→Nat→Int
 |[],_=>-1
 |x::r,k=>if n=x then (k:Int) else Df n r (k+1)
theorem Z4 (n:Int):∀(l:List Int) (k:Nat),(0≤Df n l k)↔n∈l
 |[],k=>by rw[Df];simp
 |x::r,k=>by
  rw[Df,List.mem_cons]
  by_cases h:n=x
  ·rw[if_pos h];exact⟨fun _=>.inl h,fun _=>by omega⟩
  ·rw[if_neg h,Z4 n r (k+1)]
   exact⟨.inr,fun e=>e.resolve_left h⟩
def J0 (n:Int) (l:List Int):Bool:=decide (n∈l)
theorem A0m (n:Int) (l:List Int):J0 n l=decide (0≤Df n l 0):=decide_eq_decide.2 (Z4 n l 0).symm
def A0n (l:List PlS) (p:Int) (k:Nat):List Int:=((List.range k).filter fun q=>decide ((ix l q).parent=p)).map Int.ofNat
def A0o (l:List PlS) (p:Int) (s:List Int) (g:GrS):List Int:=if g.place=p∨p∈abF l g.place.toNat then Aw s g.ids else s
def A0p (c:CfS) (p:Int) (k:Nat):List Int:=(c.groups.take k).foldl (A0o c.places p) []
theorem Z5 {n:Int}:∀{gs:List GrS} {last:Int} {seen R:List Int},Ez n gs last seen=some R→∀g∈gs,last < g.place∧g.place < n
 |[],_,_,_,_,g,hg=>by cases hg
 |x::gs,last,seen,R,h,g,hg=>by
  rw[Ez] at h
  split at h
  ·rename_i hf
   have hx:last < x.place∧x.place < n:=by
    unfold Gc at hf
    simp only[Bool.and_eq_true,decide_eq_true_eq] at hf
    exact hf.1.1.1.1
   rcases List.mem_cons.1 hg with rfl|hg
   ·exact hx
   ·have:=Z5 h g hg;omega
  ·cases h
theorem A0q {c:CfS} (h:cfF c=true):∀g∈c.groups,0 < g.place∧g.place < c.places.length:=by
 unfold cfF at h
 simp only[Bool.and_eq_true] at h
 have h4:=h.1.2
 unfold grF at h4
 split at h4
 ·cases hg:Ez c.places.length c.groups 0 [] with
  |none=>rw[hg] at h4;cases h4
  |some R=>exact Z5 hg
 ·cases h4
attribute [local irreducible] Ad Ae Ah Au Am Ap Ai Ao
attribute [local irreducible] cfF okV tcF isP ofP abF Df J0 Bn
section
set_option maxRecDepth 100000 in
theorem A0r (l:List Int) (n:Int) (A:Option Addr) (c:Nat) (w:World) (hm:l.length≤1000000) (hR:RdV w w.heap.size A (l.map (Value.int .i64))):
  Calls Tryz.prog 121 #[.slice A l.length c,.int .i64 n] w fun e w'=>e=.returned (.int .i64 (Df n l 0))∧Below w.heap.size w w':=by
 have F:=FM.of hR
 refine Bb (n:=19) Tryz.func121 rfl Tryz.ntmps121 [.x (.a (.v (.slice A l.length c))),.x (.a (.v (.int .i64 n)))] (by simp) (.x (.a (.v (.int .i64 (Df n l 0))))) (fun _=>rfl) ?_
 obtain⟨R,hr⟩:∃R,R=Df n l 0:=⟨_,rfl⟩
 rw[←hr]
 simp (maxSteps:=10^6) only[push_cast,↓reduceIte,reduceCtorEq,Nat.reduceLT,Int.reduceNeg]
 refine Bc (ι:=Nat) (fun k=>⟨[(0,.x (.a (.v (.slice A l.length c)))),(1,.x (.a (.v (.int .i64 n)))),(7,.x (.a (.v (.int .i64 l.length)))),(8,.x (.a (.v (.int .i64 k))))],[]⟩) (fun k=>k≤l.length∧R=Df n (l.drop k) k) (fun k=>l.length - k) 0 [] ⟨Nat.zero_le _,hr⟩ ?_ ?_
 ·simp (maxSteps:=10^6) only[push_cast,↓Int.cast_ofNat_Int,Int.cast_ofNat_Int,↓reduceIte,reduceCtorEq,Nat.reduceEqDiff]
 rintro k ⟨hk,hg⟩
 by_cases hlt:(k:Int) < l.length
 ·have hil:k < l.length:=by omega
  have i0:(0:Int)≤k:=by omega
  have c0:=F.cell k hil
  have o0:=F.ok k hil
  have hA:=F.some_ (by omega)
  have hd:l.drop k=ix l k::l.drop (k+1):=by
   rw[List.drop_eq_getElem_cons hil,ix,List.getD_eq_getElem?_getD,List.getElem?_eq_getElem hil];rfl
  rw[hd,Df] at hg
  generalize ix l k=x at*
  have nx:(k:Int)+1≤9223372036854775807:=by omega
  by_cases h:n=x
  ·rw[if_pos h] at hg
   simp (maxSteps:=10^6) only[hlt,i0,c0,o0,hA,h,hg,push_cast,↓Int.toNat_natCast,↓reduceIte,reduceCtorEq,Nat.reduceEqDiff,Nat.reduceLT,Int.reduceNeg]
   done
  ·rw[if_neg h] at hg
   simp (maxSteps:=10^6) only[hlt,i0,c0,o0,hA,h,push_cast,↓Int.toNat_natCast,↓reduceIte,reduceCtorEq,Nat.reduceEqDiff,Nat.reduceLT,Int.reduceNeg]
   (repeat (refine And.intro (by first|omega|decide) ?_))
   refine Ay (k+1) [] ⟨by omega,hg⟩ (by omega) ?_
   simp (maxSteps:=10^6) only[push_cast,↓reduceIte,reduceCtorEq,Nat.reduceEqDiff]
   done
 ·obtain rfl:k=l.length:=by omega
  rw[List.drop_length,Df] at hg
  simp (maxSteps:=10^6) only[hlt,hg,push_cast,↓reduceIte,reduceCtorEq,Nat.reduceEqDiff,Nat.reduceLT,Int.reduceNeg]
  done
set_option maxRecDepth 100000 in
theorem A0s (l:List Int) (n:Int) (A:Option Addr) (c:Nat) (w:World) (hm:l.length≤1000000) (hR:RdV w w.heap.size A (l.map (Value.int .i64))):
  Calls Tryz.prog 62 #[.slice A l.length c,.int .i64 n] w fun e w'=>e=.returned (.bool (J0 n l))∧Below w.heap.size w w':=by
 refine Bb (n:=9) Tryz.func62 rfl Tryz.ntmps62 [.x (.a (.v (.slice A l.length c))),.x (.a (.v (.int .i64 n)))] (by simp) (.x (.a (.v (.bool (J0 n l))))) (fun _=>rfl) ?_
 have iK:∀hp,Ae Tryz.prog w No 121 [.x (.a (.v (.slice A l.length c))),.x (.a (.v (.int .i64 n)))] hp (.x (.a (.v (.int .i64 (Df n l 0))))) hp:=fun hp=>Ba fun γ w' hS=>A0r l n A c w' hm (Cl hR hS)
 simp (maxSteps:=10^6) only[push_cast,↓reduceIte,reduceCtorEq,Nat.reduceEqDiff,Nat.reduceLT]
 (repeat (refine And.intro (by first|omega|decide) ?_))
 refine Ar rfl Aws rfl (iK _) (Af rfl) ?_
 have e:=A0m n l
 simp (maxSteps:=10^6) only[e,push_cast,↓reduceIte,Nat.reduceLT]
 done
theorem A0t {w0:World} {ow:Nat→Prop} {hp:List Res} {sv:Sv} {l:List Int} (n:Int) (hm:l.length≤1000000) (h:A6 w0 ow hp sv (l.map (Value.int .i64))):Ae Tryz.prog w0 ow 62 [sv,.x (.a (.v (.int .i64 n)))] hp (.x (.a (.v (.bool (J0 n l))))) hp:=Ba fun γ w hS=>by
 obtain⟨A,c,e1,b1,r1⟩:=h γ w hS
 rw[List.length_map] at e1
 show Calls _ _ #[sv.val γ,_] w _
 rw[e1]
 exact A0s l n A c w hm r1
attribute [local irreducible] A0n A0p
def B5 (c:CfS) (p:Int):Int:=if isP c p=true then Bn p c.groups 0 else 0
attribute [local irreducible] B5
set_option maxRecDepth 100000 in
theorem A0u (c:CfR) (p:Int) (w:World) (hc:c.Ok w):Calls Tryz.prog 50 #[.agg (cfV c).toArray,.int .i64 p] w fun e w'=>e=.returned (.tuple #[.int .i64 (B5 c.cf p),tcF c.cf p])∧Below w.heap.size w w':=by
 have hgf:=hc.gfew
 have hgl:=hc.glen
 refine Bb (n:=17) Tryz.func50 rfl Tryz.ntmps50 [.x (.g [.v (.int .i64 c.dim),.v (.slice c.ps.A c.ps.l.length c.ps.c),.v (.slice c.gs.A c.gs.l.length c.gs.c),.v (.int .i64 c.least),.v (.int .i64 c.term)]),.x (.a (.v (.int .i64 p)))] (by simp) (.t [.a (.v (.int .i64 (B5 c.cf p))),.a (.v (tcF c.cf p))]) (fun _=>rfl) ?_
 simp (maxSteps:=10^6) only[undef,push_cast,↓reduceIte,reduceCtorEq,Nat.reduceEqDiff,Nat.reduceLT,Nat.reduceAdd]
 (repeat (refine And.intro (by first|omega|decide) ?_))
 refine Ar rfl X0 rfl (Z1 c p hc) (Af rfl) ?_
 rcases Z3 c.cf p with ⟨h1,h2⟩|⟨h2,n,h1⟩
 ·have ho:B5 c.cf p=Bn p (c.gs.l.map GrR.gr) 0:=by unfold B5;rw[if_pos h2];rfl
  have cK:∀hp,Cv hp[1]?=some (3,.c [.v (.int .i64 p)])→Ae Tryz.prog w No 109 [.x (.a (.v (.slice c.gs.A c.gs.l.length c.gs.c))),.f (.func 110) [.p 1 0]] hp (.x (.a (.v (.int .i64 (Bn p (c.gs.l.map GrR.gr) 0))))) hp:=fun hp h=>Ba fun γ w' hS=>Zy c.gs.l c.gs.A c.gs.c _ p w' hgf (Cl hc.grd hS) (Az6.pure (K5 (vs:=[.int .i64 p]) hS h rfl))
  simp (maxSteps:=10^6) only[h1,ho,undef,push_cast,↓reduceIte,reduceCtorEq,Nat.reduceEqDiff,Nat.reduceLT,Nat.reduceAdd]
  (repeat (refine And.intro (by first|omega|decide) ?_))
  refine Ar rfl X1 rfl (cK _ rfl) (Af rfl) ?_
  simp (maxSteps:=10^6) only[push_cast,↓reduceIte,Nat.reduceEqDiff,Nat.reduceLT,Nat.reduceAdd]
  done
 ·have ho:B5 c.cf p=0:=by unfold B5;rw[h2];rfl
  simp (maxSteps:=10^6) only[h1,ho,push_cast,↓reduceIte,Nat.reduceEqDiff,Nat.reduceLT,Nat.reduceAdd]
  done
theorem A0v {w0:World} {hp:List Res} {s:Sv} {c:CfS} (p:Int) (h:Iw w0 hp s c):Ae Tryz.prog w0 No 50 [s,.x (.a (.v (.int .i64 p)))] hp (.t [.a (.v (.int .i64 (B5 c p))),.a (.v (tcF c p))]) hp:=Ba fun γ w hS=>by
 obtain⟨a,e,h1,rfl⟩:=h γ w hS
 show Calls _ _ #[s.val γ,_] w _
 rw[e]
 exact A0u a p w h1
end
end Go.Proofs.YtedaafmfjhjfmaaGreatDoor
